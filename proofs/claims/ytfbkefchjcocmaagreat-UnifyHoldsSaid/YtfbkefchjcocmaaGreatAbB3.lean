/- Parts of the proof that the law returns true: walks of the functions, plain laws. -/
import Derived.ChangeArms
import Derived.ChangeShapes
import Derived.IntWalk
import Derived.Test.YtfbkefchjcocmaaGreatAbB2
set_option linter.unusedVariables false
set_option linter.unusedSimpArgs false
set_option linter.unusedSectionVars false
namespace Go.Ab
open Go Go.RowKit
structure Sub (G G':Gh) (p:Nat->Prop):Prop where
 F:G'.F=G.F
 ρ:∀i b,p i->G.ρ i=some b->G'.ρ i=some b
 τ:∀k q,G.τ k=some q->G'.τ k=some q
 L:∀b o,G.L b o->G'.L b o
 N:∀i,p i->G.N i->G'.N i
mutual
theorem V.less{G G':Gh}{w:World}{p:Nat->Prop}(h:Sub G G' p):∀(a:AV) (u:Value),a.fine p->V G w a u->V G' w a u
 | .val v,u,_,hv=>by simpa only[V]using hv
 | .agg cs,u,hi,hv=>by
  simp only[V,AV.fine]at hi hv ⊢
  obtain⟨vs,rfl,hl⟩:=hv
  exact⟨vs,rfl,VL.less h cs vs hi hl⟩
 | .tup cs,u,hi,hv=>by
  simp only[V,AV.fine]at hi hv ⊢
  obtain⟨vs,rfl,hl⟩:=hv
  exact⟨vs,rfl,VL.less h cs vs hi hl⟩
 | .sl es n o,u,hi,hv=>by
  simp only[V,AV.fine]at hi hv ⊢
  obtain⟨cap,hc,hh⟩:=hv
  refine⟨cap,hc,?_⟩
  rcases hh with⟨rfl,h2,h3,h4,h5⟩|⟨b,off,hu,hcells,ho⟩
  ·exact .inl ⟨rfl,h2,h3,h4,h5.mono h.τ⟩
  ·exact .inr ⟨b,off,hu,VC.data h.L es b off hi hcells,ho.mono h.F h.τ⟩
 | .ip es,u,hi,hv=>by
  simp only[V,AV.fine]at hi hv ⊢
  obtain⟨b,off,hu,hcells⟩:=hv
  exact⟨b,off,hu,VC.data h.L es b off hi hcells⟩
 | .mp i off,u,hi,hv=>by
  simp only[V,AV.fine]at hi hv ⊢
  obtain⟨b,hb,hu⟩:=hv
  exact⟨b,h.ρ _ _ hi hb,hu⟩
 | .ms i off n c sz,u,hi,hv=>by
  simp only[V,AV.fine]at hi hv ⊢
  rcases hv with⟨b,cap,hb,hu⟩|⟨hn,hN,hu⟩
  ·exact .inl ⟨b,cap,h.ρ _ _ hi hb,hu⟩
  ·exact .inr ⟨hn,h.N _ hi hN,hu⟩
 | .obj i,u,hi,hv=>by
  simp only[V,AV.fine]at hi hv ⊢
  obtain⟨b,hb,hu⟩:=hv
  exact⟨b,h.ρ _ _ hi hb,hu⟩
 | .clo g fs cs,u,hi,hv=>by
  simp only[V,AV.fine]at hi hv ⊢
  obtain⟨l,r',hu,h1,h2⟩:=hv
  exact⟨l,r',hu,VL.less h fs l hi.1 h1,VL.less h cs r' hi.2 h2⟩
theorem VL.less{G G':Gh}{w:World}{p:Nat->Prop}(h:Sub G G' p):∀(as0:List AV) (us:List Value),AV.fineL p as0->VL G w as0 us->VL G' w as0 us
 | [],[],_,_=>by simp only[VL]
 |a::as0,u::us,hi,hv=>by
  simp only[VL,AV.fineL]at hi hv ⊢
  exact⟨V.less h a u hi.1 hv.1,VL.less h as0 us hi.2 hv.2⟩
 | [],_::_,_,hv=>by simp only[VL]at hv
 |_::_,[],_,hv=>by simp only[VL]at hv
end
mutual
def AV.fz(m:Nat)(cs:List AV):AV->AV
 | .val v=>.val v
 | .agg l=>.agg (AV.fzL m cs l)
 | .tup l=>.tup (AV.fzL m cs l)
 | .sl es n o=>.sl es n o
 | .ip es=>.ip es
 | .mp i off=>.mp i off
 | .ms i off n c sz=>bif Nat.beq i m then .sl (cs.drop off) n .no else .ms i off n c sz
 | .obj i=>.obj i
 | .clo g a b=>.clo g a b
def AV.fzL(m:Nat)(cs:List AV):List AV->List AV
 | []=>[]
 |a::l=>AV.fz m cs a::AV.fzL m cs l
end
mutual
def AV.fzOk(m:Nat):AV->Prop
 | .val _=>True
 | .agg l=>AV.fzOkL m l
 | .tup l=>AV.fzOkL m l
 | .sl es _ _=>AV.DataL es
 | .ip es=>AV.DataL es
 | .mp i _=>i<m
 | .ms i off _ _ _=>(i=m∧off=0)∨i<m
 | .obj i=>i<m
 | .clo _ a b=>AV.fineL (fun i=>i<m) a∧AV.fineL (fun i=>i<m) b
def AV.fzOkL(m:Nat):List AV->Prop
 | []=>True
 |a::l=>AV.fzOk m a∧AV.fzOkL m l
end
theorem Z7:∀(l:List AV) (n:Nat),AV.DataL l->AV.DataL (l.drop n)
 |l,0,h=>by simpa using h
 | [],_+1,_=>trivial
 |_::l,n+1,h=>by simpa using Z7 l n h.2
mutual
theorem AV.fz_fine{m:Nat}{cs:List AV}(hc:AV.DataL cs):∀a:AV,a.fzOk m->(a.fz m cs).fine (fun i=>i<m)
 | .val _,_=>trivial
 | .agg l,h=>AV.fzL_fine hc l h
 | .tup l,h=>AV.fzL_fine hc l h
 | .sl _ _ _,h=>h
 | .ip _,h=>h
 | .mp _ _,h=>h
 | .ms i off n c sz,h=>by
  simp only[AV.fz]
  cases hb:Nat.beq i m with
  |true=>exact Z7 _ _ hc
  |false=>
   rcases h with⟨rfl,_⟩|h
   ·simp at hb
   ·exact h
 | .obj _,h=>h
 | .clo _ _ _,h=>h
theorem AV.fzL_fine{m:Nat}{cs:List AV}(hc:AV.DataL cs):∀l:List AV,AV.fzOkL m l->AV.fineL (fun i=>i<m) (AV.fzL m cs l)
 | [],_=>trivial
 |a::l,h=>⟨AV.fz_fine hc a h.1,AV.fzL_fine hc l h.2⟩
end
mutual
theorem V.fz{G G':Gh}{w:World}{m:Nat}{cs:List AV}(h:Sub G G' (fun i=>i<m))(hm:∀b,G.ρ m=some b->VC G' w cs b 0)(hc:G.N m->cs=[]):∀(a:AV) (u:Value),a.fzOk m->V G w a u->V G' w (a.fz m cs) u
 | .val v,u,_,hv=>by simpa only[AV.fz,V]using hv
 | .agg l,u,hi,hv=>by
  simp only[V,AV.fzOk,AV.fz]at hi hv ⊢
  obtain⟨vs,rfl,hl⟩:=hv
  exact⟨vs,rfl,VL.fz h hm hc l vs hi hl⟩
 | .tup l,u,hi,hv=>by
  simp only[V,AV.fzOk,AV.fz]at hi hv ⊢
  obtain⟨vs,rfl,hl⟩:=hv
  exact⟨vs,rfl,VL.fz h hm hc l vs hi hl⟩
 | .sl es n o,u,hi,hv=>V.less h (.sl es n o) u hi hv
 | .ip es,u,hi,hv=>V.less h (.ip es) u hi hv
 | .mp i off,u,hi,hv=>V.less h (.mp i off) u hi hv
 | .ms i off n c sz,u,hi,hv=>by
  simp only[AV.fz]
  cases hb:Nat.beq i m with
  |false=>
   rcases hi with⟨rfl,_⟩|hi
   ·simp at hb
   ·exact V.less h (.ms i off n c sz) u hi hv
  |true=>
   have:=Nat.eq_of_beq_eq_true hb
   subst this
   simp only[V,cond_true]at hv ⊢
   rcases hi with⟨_,e0⟩|hi
   ·subst e0
    rcases hv with⟨b,cap,hb',hn,o,rfl,hro⟩|⟨⟨e1,_⟩,hN,p,rfl⟩
    ·rcases hro with⟨eo,_⟩|⟨_,h0⟩
     ·subst eo
      exact⟨cap,Nat.le_trans hn.1 hn.2,.inr ⟨b,_,rfl,by simpa using hm b hb',trivial⟩⟩
     ·exact absurd h0 (Nat.lt_irrefl _)
    ·rw[hc hN]
     subst e1
     exact⟨0,Nat.le_refl 0,.inl ⟨rfl,(by first|rfl|trivial),(by first|rfl|trivial),rfl,trivial⟩⟩
   ·exact absurd hi (Nat.lt_irrefl _)
 | .obj i,u,hi,hv=>V.less h (.obj i) u hi hv
 | .clo g a b,u,hi,hv=>V.less h (.clo g a b) u hi hv
theorem VL.fz{G G':Gh}{w:World}{m:Nat}{cs:List AV}(h:Sub G G' (fun i=>i<m))(hm:∀b,G.ρ m=some b->VC G' w cs b 0)(hc:G.N m->cs=[]):∀(as0:List AV) (us:List Value),AV.fzOkL m as0->VL G w as0 us->VL G' w (AV.fzL m cs as0) us
 | [],[],_,_=>by simp only[AV.fzL,VL]
 |a::as0,u::us,hi,hv=>by
  simp only[VL,AV.fzOkL,AV.fzL]at hi hv ⊢
  exact⟨V.fz h hm hc a u hi.1 hv.1,VL.fz h hm hc as0 us hi.2 hv.2⟩
 | [],_::_,_,hv=>by simp only[VL]at hv
 |_::_,[],_,hv=>by simp only[VL]at hv
end
def zEd(m:Nat):List (Nat×yO)->List (Nat×yO)
 | []=>[]
 |p::l=>bif Nat.blt p.1 m then p::zEd m l else zEd m l
theorem dX{m:Nat}:∀(l:List (Nat×yO)) (i:Nat),look (zEd m l) i=if i<m then look l i else none
 | [],i=>by simp[zEd,look]
 |p::l,i=>by
  simp only[zEd]
  cases hb:Nat.blt p.1 m with
  |true=>
   have hb':p.1<m:=Nat.le_of_ble_eq_true hb
   simp only[cond_true,look,dX l i]
   cases he:Nat.beq i p.1 with
   |true=>have:=Nat.eq_of_beq_eq_true he;simp only[cond_true];rw[if_pos (by omega)]
   |false=>simp only[cond_false]
  |false=>
   have hb':¬p.1<m:=by intro h;rw[Nat.blt,Nat.ble_eq_true_of_le h]at hb;cases hb
   simp only[cond_false,look,dX l i]
   cases he:Nat.beq i p.1 with
   |true=>have:=Nat.eq_of_beq_eq_true he;rw[if_neg (by omega),if_neg (by omega)]
   |false=>simp only[cond_false]
def yO.alive:yO->Bool
 | .dead=>false
 |_=>true
theorem tU.freeze{P:Program}{f:FuncId}{H0 H1:List yO}{args cs:List AV}{res:AV}{nst:Nat}(h:tU P f H0 args res (H1++[.row cs]) nst)(hle:H0.length≤H1.length)(hH1:∀X∈H1,X.fine (fun i=>i<H1.length))(hcs:AV.DataL cs)(hr:res.fzOk H1.length)(hnd:H1.all yO.alive=true) :
  tU P f H0 args (res.fz H1.length cs) H1 nst:=by
 intro G0 W cargs hB hR hv
 refine(h G0 W cargs hB hR hv).mono ?_
 rintro e W' ⟨u,G',s',rfl,hE,hR',hu,hb,ho⟩
 have hm:look s'.H H1.length=some (.row cs):=hb H1.length _ (by simp)
 have hm':(yU (vY 0) s').H H1.length=some (.row cs):=by rw[xP];exact hm
 have real:∀b,G'.ρ H1.length=some b->¬G'.F b∧∃us:List Value,us.length=cs.length∧VL G' W' cs us∧∀i (hi:i<us.length),W'.cell? ⟨b,0+i,none⟩=some us[i]:=by
  intro b hρ
  obtain⟨hF,vs,T,hh,us,rest,hus,hvl⟩:=hR'.blk H1.length b _ hρ hm'
  refine⟨hF,us,VL.length _ _ hvl,hvl,fun i hi=>?_⟩
  have:vs[i]? = some us[i]:=by
   have h1:vs.toList[i]? = some us[i]:=by rw[hus,List.getElem?_append_left hi,List.getElem?_eq_getElem hi]
   simpa using h1
  rw[Nat.zero_add]
  simp[World.cell?,hh,this]
 have hNn:G'.N H1.length->cs=[]:=fun e=>yO.void_row (hR'.Nvoid e hm')
 let G'':Gh:={ G' with ρ:=fun i=>if i<H1.length then G'.ρ i else none,L:=fun c o=>G'.L c o∨(G'.ρ H1.length=some c∧o<cs.length),N:=fun i=>i<H1.length∧G'.N i }
 have hS:Sub G' G'' (fun i=>i<H1.length):=⟨rfl,fun i b hi e=>by show (if i<H1.length then G'.ρ i else none)=_;rw[if_pos hi];exact e,fun _ _ e=>e,fun _ _ e=>.inl e,fun _ hi e=>⟨hi,e⟩⟩
 have hC:∀b,G'.ρ H1.length=some b->VC G'' W' cs b 0:=fun b hρ=>by
  obtain⟨_,us,hlen,hvl,hcell⟩:=real b hρ
  exact VC.of_cells cs us b 0 (VL.data hS.L cs us hcs hvl) (fun i hi=>.inr ⟨hρ,by omega⟩) hcell
 have hσ:∀i,(yU (vY 0) { s' with H:=zEd H1.length s'.H }).H i=if i<H1.length then look s'.H i else none:=fun i=>by rw[xP];exact dX _ _
 have hσ':∀i,(yU (vY 0) s').H i=look s'.H i:=fun i=>xP _ _
 refine⟨u,G'',{ s' with H:=zEd H1.length s'.H },rfl,⟨fun i c hc=>?_,hE.τ,fun c o e=>.inl (hE.L c o e),hE.cell,hE.w0,hE.F,fun c o e=>?_,hE.room,fun i e=>?_⟩,⟨fun i=>?_,⟨H1.length,fun i hi=>?_⟩,fun i j c hi hj=>?_,fun i c X hi hX=>?_,fun c o hL=>?_,hR'.τns,fun k hk=>?_,hR'.ownd,hR'.below,hR'.base⟩,V.fz hS hC hNn _ _ hr hu,fun i X hX=>?_,ho⟩
 ·have hi:i<H0.length:=Nat.lt_of_not_le fun hge=>by rw[(hB.ρ i hge).1]at hc;cases hc
  show (if i<H1.length then G'.ρ i else none)=_
  rw[if_pos (by omega)];exact hE.ρ i c hc
 ·rcases e with e|⟨e,_⟩
  ·exact hE.newL c o e
  ·exact .inr (by rw[←hE.F];exact(real c e).1)
 ·have hi:i<H0.length:=Nat.lt_of_not_le fun hge=>(hB.ρ i hge).2 e
  exact⟨by omega,hE.N i e⟩
 ·rw[hσ]
  show jZ (if i<H1.length then G'.ρ i else none) (i<H1.length∧G'.N i) _
  have hd:=hR'.dom i
  rw[hσ']at hd
  split
  ·rename_i hi
   exact⟨fun q=>(hd.1 q).imp (fun r=>⟨hi,r⟩) id,fun q=>⟨(hd.2.1 q).1,fun r=>(hd.2.1 q).2 r.2⟩,fun r=>hd.2.2 r.2⟩
  ·rename_i hi
   exact⟨fun _=>.inr rfl,fun _=>⟨rfl,fun r=>hi r.1⟩,fun r=>absurd r.1 hi⟩
 ·rw[hσ,if_neg (by omega)]
 ·have hi':(if i<H1.length then G'.ρ i else none)=some c:=hi
  have hj':(if j<H1.length then G'.ρ j else none)=some c:=hj
  split at hi'
  ·split at hj'
   ·rename_i h1 h2
    rw[hσ,hσ,if_pos h1,if_pos h2,←hσ',←hσ']
    exact hR'.inj i j c hi' hj'
   ·cases hj'
  ·cases hi'
 ·have hi':(if i<H1.length then G'.ρ i else none)=some c:=hi
  split at hi'
  ·rename_i hlt
   rw[hσ,if_pos hlt]at hX
   obtain⟨q1,q2⟩:=hR'.blk i c X hi' (by rw[hσ'];exact hX)
   refine⟨q1,?_⟩
   have hget:(H1++[.row cs])[i]? = some H1[i]:=by rw[List.getElem?_append_left hlt,List.getElem?_eq_getElem hlt]
   have:=hb i _ hget
   rw[this]at hX;cases hX
   have hf:=hH1 _ (List.getElem_mem hlt)
   cases hY:H1[i]with
   |cells ds=>
    rw[hY]at q2 hf
    obtain⟨vs',T',q3,q4⟩:=q2
    exact⟨vs',T',q3,q4.imp fun us=>VL.less hS _ us hf⟩
   |obj o=>rw[hY]at q2;exact q2
   |row ds=>
    rw[hY]at q2 hf
    obtain⟨vs',T',q3,q4⟩:=q2
    exact⟨vs',T',q3,q4.imp fun us=>VL.data hS.L _ us hf⟩
   |dead=>rw[hY]at q2;exact q2
  ·cases hi'
 ·rcases hL with hL|⟨hρ,hlt⟩
  ·obtain⟨q1,q2⟩:=hR'.live c o hL
   refine⟨q1,fun i hi=>?_⟩
   have hi':(if i<H1.length then G'.ρ i else none)=some c:=hi
   split at hi'
   ·exact q2 i hi'
   ·cases hi'
  ·obtain⟨_,us,hlen,hvl,hcell⟩:=real c hρ
   refine⟨⟨us[o]'(by omega),?_⟩,fun i hi=>?_⟩
   ·have:=hcell o (by omega)
    rwa[Nat.zero_add]at this
   ·have hi':(if i<H1.length then G'.ρ i else none)=some c:=hi
    split at hi'
    ·rename_i hlt'
     have hi2:look s'.H i=some H1[i]:=hb i _ (by rw[List.getElem?_append_left hlt',List.getElem?_eq_getElem hlt'])
     rcases hR'.inj i H1.length c hi' hρ with this|this|this
     ·omega
     ·rw[hσ',hi2]at this
      have h3:=List.all_eq_true.1 hnd _ (List.getElem_mem hlt')
      rw[Option.some.inj this]at h3
      cases h3
     ·rw[hσ',hm]at this;cases this
    ·cases hi'
 ·obtain⟨c,f1,t,q1,q2|⟨q2,q3,q4,q5⟩⟩:=hR'.own k hk
  ·exact⟨c,f1,t,q1,.inl q2⟩
  ·refine⟨c,f1,t,q1,.inr ⟨q2,fun i hi=>?_,fun o h1 h2 hL=>?_,q5⟩⟩
   ·have hi':(if i<H1.length then G'.ρ i else none)=some c:=hi
    split at hi'
    ·exact q3 i hi'
    ·cases hi'
   ·rcases hL with hL|⟨hρ,_⟩
    ·exact q4 o h1 h2 hL
    ·exact q3 _ hρ
 ·have hlt:=(List.getElem?_eq_some_iff.1 hX).1
  show look (zEd H1.length s'.H) i=some X
  rw[dX,if_pos hlt]
  exact hb i X (by rw[List.getElem?_append_left hlt];exact hX)
theorem CT.freeze{P:Program}{f:FuncId}{H0 H1:List yO}{args cs:List AV}{res res':AV}{nst:Nat}(h:CT P f H0 args res (H1++[.row cs]) nst)(hle:H0.length≤H1.length)(hH1:∀X∈H1,X.fine (fun i=>i<H1.length))(hcs:AV.DataL cs)(hr:res.fzOk H1.length)(hnd:H1.all yO.alive=true)(e:res.fz H1.length cs=res') :
  CT P f H0 args res' H1 nst:=by
 subst e
 exact⟨h.tri.freeze hle hH1 hcs hr hnd,h.args,h.H0,AV.fz_fine hcs _ hr,hH1⟩
theorem zBw{G0 G':Gh}{W W':World}{s':xA}{u:Value}(sz:Nat)(hB:iE (0:Nat) G0)(hE:vC G0 W G' W')(hR':yN G' (yU (vY 0) s') W')(hu:∃cap b o,(cap=0)∧(u = .slice (bU u) 0 0∨u = .slice (some ⟨b,o,none⟩) 0 cap)) :
  ∃u' G'' s'',Ending.returned u = .returned u'∧vC G0 W G'' W'∧yN G'' (yU (vY 0) s'') W'∧V G'' W' (.sl [] 0 (.st 0 sz)) u'∧(∀i X,([]:List yO)[i]? = some X->look s''.H i=some X)∧∀k,k<1->s''.own.any (Nat.beq k)=true:=by
 let G'':Gh:={ G' with ρ:=fun _=>none,τ:=fun k=>if k=0 then some (0,1,0)else none,N:=fun _=>False }
 refine⟨u,G'',{ s' with H:=[],own:=[0],ns:=1 },rfl,⟨fun i c hc=>?_,fun k r hk=>?_,hE.L,hE.cell,hE.w0,hE.F,hE.newL,fun i c m hc=>?_,fun i e=>absurd e (hB.ρ i (Nat.zero_le _)).2⟩,⟨fun i=>?_,⟨0,fun i _=>?_⟩,fun i j c hi=>?_,fun i c X hi=>?_,fun c o hL=>?_,fun k hk=>?_,fun k hk=>?_,fun k k' _ _ _ _ _ hk hk'=>?_,hR'.below,hR'.base⟩,?_,fun i X hX=>?_,fun k hk=>?_⟩
 ·rw[(hB.ρ i (Nat.zero_le _)).1]at hc;cases hc
 ·rw[hB.τ k]at hk;cases hk
 ·rw[(hB.ρ i (Nat.zero_le _)).1]at hc;cases hc
 ·rw[xP];exact⟨fun _=>.inr rfl,fun _=>⟨rfl,id⟩,fun e=>e.elim⟩
 ·rw[xP];rfl
 ·cases hi
 ·cases hi
 ·exact⟨(hR'.live c o hL).1,fun i hi=>by cases hi⟩
 ·have hk1:1≤k:=hk
  show (if k=0 then some (0,1,0)else none)=none
  rw[if_neg (by omega)]
 ·rw[sU]at hk
  have e:k=0:=by simpa using hk
  subst e
  exact⟨0,1,0,rfl,.inl (by decide)⟩
 ·rw[sU]at hk hk'
  have e:k=0:=by simpa using hk
  have e':k'=0:=by simpa using hk'
  intros;omega
 ·obtain⟨cap,b,o,rfl,hu|rfl⟩:=hu
  ·simp only[V]
   exact⟨0,Nat.le_refl 0,.inl ⟨(by trivial),(by trivial),(by trivial),hu,_,rfl⟩⟩
  ·simp only[V]
   exact⟨0,Nat.le_refl 0,.inl ⟨(by trivial),(by trivial),(by trivial),(by first|rfl|trivial),_,rfl⟩⟩
 ·cases hX
 ·have:k=0:=by omega
  subst this;rfl
theorem tU.freezeS{P:Program}{f:FuncId}{args cs:List AV}{n c sz:Nat}(h:tU P f [] args (.ms 0 0 n c sz) [.row cs] 0)(hcs:AV.DataL cs)(hl:cs.length=n*sz) :
  tU P f [] args (.sl cs n (.st 0 sz)) [] 1:=by
 intro G0 W cargs hB hR hv
 refine(h G0 W cargs hB hR hv).mono ?_
 rintro e W' ⟨u,G',s',rfl,hE,hR',hu,hb,-⟩
 have hm:look s'.H 0=some (.row cs):=hb 0 _ (by simp)
 have hm':(yU (vY 0) s').H 0=some (.row cs):=by rw[xP];exact hm
 simp only[V]at hu
 rcases hu with⟨b,cap,hρ,hn,o,rfl,hro⟩|⟨⟨e0,_⟩,hN,p,rfl⟩
 rotate_left
 ·have hcs0:=yO.void_row (hR'.Nvoid hN hm')
  subst e0
  try subst hcs0
  exact zBw sz hB hE hR' ⟨0,0,0,rfl,.inl rfl⟩
 obtain⟨hF,vs,T,hh,us,rest,hus,hvl⟩:=hR'.blk 0 b _ hρ hm'
 have hlen:=VL.length _ _ hvl
 rcases hro with⟨rfl,vs2,T2,hh2,hroom⟩|⟨_,h0⟩
 rotate_left
 ·exact absurd h0 (Nat.lt_irrefl _)
 rw[hh]at hh2;cases hh2
 let G'':Gh:={ G' with ρ:=fun _=>none,τ:=fun k=>if k=0 then some (b,0+cs.length,0+cap*sz)else none,L:=fun c o=>G'.L c o∨(c=b∧o<cs.length),N:=fun _=>False }
 have hcell:∀i (hi:i<us.length),W'.cell? ⟨b,0+i,none⟩=some us[i]:=by
  intro i hi
  have:vs[i]? = some us[i]:=by
   have h1:vs.toList[i]? = some us[i]:=by rw[hus,List.getElem?_append_left hi,List.getElem?_eq_getElem hi]
   simpa using h1
  rw[Nat.zero_add]
  simp[World.cell?,hh,this]
 have hC:VC G'' W' cs b 0:=VC.of_cells cs us b 0 (VL.data (G':=G'') (fun c o e=>Or.inl e) cs us hcs hvl) (fun i hi=>.inr ⟨rfl,by omega⟩) hcell
 refine⟨_,G'',{ s' with H:=[],own:=[0],ns:=1 },rfl,⟨fun i c hc=>?_,fun k r hk=>?_,fun c o e=>.inl (hE.L c o e),hE.cell,hE.w0,hE.F,fun c o e=>?_,fun i c m hc=>?_,fun i e=>absurd e (hB.ρ i (Nat.zero_le _)).2⟩,⟨fun i=>?_,⟨0,fun i _=>?_⟩,fun i j c hi=>?_,fun i c X hi=>?_,fun c o hL=>?_,fun k hk=>?_,fun k hk=>?_,fun k k' _ _ _ _ _ hk hk'=>?_,hR'.below,hR'.base⟩,?_,fun i X hX=>?_,fun k hk=>?_⟩
 ·rw[(hB.ρ i (Nat.zero_le _)).1]at hc;cases hc
 ·rw[hB.τ k]at hk;cases hk
 ·rcases e with e|⟨rfl,_⟩
  ·exact hE.newL c o e
  ·exact .inr (by rw[←hE.F];exact hF)
 ·rw[(hB.ρ i (Nat.zero_le _)).1]at hc;cases hc
 ·rw[xP];exact⟨fun _=>.inr rfl,fun _=>⟨rfl,id⟩,fun e=>e.elim⟩
 ·rw[xP];rfl
 ·cases hi
 ·cases hi
 ·rcases hL with hL|⟨rfl,hlt⟩
  ·exact⟨(hR'.live c o hL).1,fun i hi=>by cases hi⟩
  ·refine⟨⟨us[o]'(by omega),?_⟩,fun i hi=>by cases hi⟩
   have:=hcell o (by omega)
   rwa[Nat.zero_add]at this
 ·have hk1:1≤k:=hk
  show (if k=0 then some (b,0+cs.length,0+cap*sz)else none)=none
  rw[if_neg (by omega)]
 ·rw[sU]at hk
  have e:k=0:=by simpa using hk
  subst e
  refine⟨b,0+cs.length,0+cap*sz,rfl,.inr ⟨hF,fun i hi=>(by cases hi),fun o h1 h2 hL=>?_,vs,T,hh,hroom⟩⟩
  rcases hL with hL|⟨_,h3⟩
  ·exact(hR'.live b o hL).2 0 hρ
  ·omega
 ·rw[sU]at hk hk'
  have e:k=0:=by simpa using hk
  have e':k'=0:=by simpa using hk'
  intros;omega
 ·simp only[V]
  exact⟨cap,Nat.le_trans hn.1 hn.2,.inr ⟨b,0,rfl,hC,⟨_,rfl⟩,.inr ⟨hl,hF,rfl⟩⟩⟩
 ·cases hX
 ·have:k=0:=by omega
  subst this;rfl
theorem tU.stampNil{P:Program}{f:FuncId}{args:List AV}{sz:Nat}(h:tU P f [] args (.sl [] 0 .full) [] 0):tU P f [] args (.sl [] 0 (.st 0 sz)) [] 1:=by
 intro G0 W cargs hB hR hv
 refine(h G0 W cargs hB hR hv).mono ?_
 rintro e W' ⟨u,G',s',rfl,hE,hR',hu,hb,-⟩
 refine zBw sz hB hE hR' ?_
 simp only[V]at hu
 obtain⟨cap,hc,⟨_,_,h3,h4,_⟩|⟨b,off,rfl,_,ho⟩⟩:=hu
 ·exact⟨0,0,0,rfl,.inl h4⟩
 ·exact⟨cap,b,off,ho,.inr rfl⟩
theorem CT.freezeS{P:Program}{f:FuncId}{args cs:List AV}{n c sz:Nat}(h:CT P f [] args (.ms 0 0 n c sz) [.row cs] 0)(hcs:AV.DataL cs)(hl:cs.length=n*sz):CT P f [] args (.sl cs n (.st 0 sz)) [] 1:=
 ⟨h.tri.freezeS hcs hl,h.args,h.H0,hcs,fun _ h=>nomatch h⟩
theorem CT.stampNil{P:Program}{f:FuncId}{args:List AV}{sz:Nat}(h:CT P f [] args (.sl [] 0 .full) [] 0):CT P f [] args (.sl [] 0 (.st 0 sz)) [] 1:=
 ⟨h.tri.stampNil,h.args,h.H0,trivial,fun _ h=>nomatch h⟩
def gmk{α:Type}(B:Int)(d:α)(n:Int):Option (List α):=if 0≤n∧n*B≤140737488355328 then some (List.replicate n.toNat d)else none
def iM(n:Nat)(i:Int):Option Nat:=if 0≤i∧i<n then some i.toNat else none
def N5{α:Type}(l:List α)(k:Nat)(x:α):Option (List α):=if k<l.length then some (l.set k x)else none
def gfz{α:Type}(n:Nat)(l:List α):Option (List α):=if l.length=n then some l else none
theorem nH{α:Type}{n:Nat}{l r:List α}(h:gfz n l=some r):r=l∧n=r.length:=by
 unfold gfz at h
 split at h
 ·rename_i e;cases h;exact⟨rfl,e.symm⟩
 ·cases h
theorem zBv{f:Nat->AV}{s:Nat}(hs:0<s):∀n:Nat,(List.range (n*s)).map (fun j=>f (j % s))=(List.replicate n ((List.range s).map f)).flatten
 |0=>by simp
 |n+1=>by
  rw[Nat.add_mul,Nat.one_mul,List.range_add,List.map_append,zBv hs n,List.replicate_succ',List.flatten_append]
  congr 1
  simp only[List.map_map,List.flatten_cons,List.flatten_nil,List.append_nil]
  apply List.map_congr_left
  intro j hj
  have:j<s:=List.mem_range.1 hj
  simp[Function.comp,Nat.add_comm (n*s) j,Nat.mod_eq_of_lt this]
theorem zEc{α:Type}{c:α->List AV}{d:α}:∀n:Nat,(List.replicate n (c d)).flatten=zG c (List.replicate n d)
 |0=>rfl
 |n+1=>by simp only[List.replicate_succ,List.flatten_cons,zG,List.flatMap_cons];rw[zEc n];rfl
theorem zXS{P:Program}{α:Type}{c:α->List AV}{sz:Nat}{t e:TypeId}{ie:TypeInfo}{z:Value}(ht:P.underlying t=some (.slice e))(hi:P.info? e=some ie)(hs:ie.size=sz)(hz:ie.zero=some z)(hzs:z.cells.size=sz)(h1:1≤sz){B:Nat}(hb:ie.bytes=B)(hB:1≤B){d:α}
  (hd:(List.range sz).map (fun j=>(ofV 8 (z.cells.getD j undef)).frz)=c d) {n:Int} {l:List α} (h:gmk (B:Int) d n=some l):Ob.ok P (.mk (iF P t (ai n) (ai n)) (zG c l) l.length):=by
 unfold gmk at h
 split at h
 ·rename_i hc
  cases h
  show iF P t (ai n) (ai n)=some (zG c (List.replicate n.toNat d),(List.replicate n.toNat d).length)
  unfold iF
  simp only[ht,hi,hz]
  have hb':(B:Int)≥1:=by omega
  have hn:n≤n*B:=by
   have:=Int.mul_le_mul_of_nonneg_left hb' hc.1
   simpa using this
  rw[if_pos ⟨trivial,hc.1,by rw[hb];exact hc.2,by omega,by rw[hzs,hs],by rw[hs];exact h1⟩]
  simp only[List.length_replicate,Option.some.injEq,Prod.mk.injEq,and_true]
  rw[hs,hzs,zBv h1 (f:=fun j=>(ofV 8 (z.cells.getD j undef)).frz),hd,zEc]
 ·cases h
theorem zHg{P:Program}{t e:TypeId}{ie:TypeInfo}(ht:P.underlying t=some (.slice e))(hi:P.info? e=some ie){sz:Nat}(hs:ie.size=sz){b n k c z:Nat}{i:Int}(h:iM n i=some k) :
  xQ P t (.ms b 0 n c z) (ai i)=some (.mp b (k*sz)):=by
 unfold iM at h
 split at h
 ·rename_i hc
  cases h
  unfold xQ
  simp only[ht,hi]
  rw[if_pos hc,hs,Nat.zero_add]
 ·cases h
theorem zJr{α:Type}{c:α->List AV}{sz:Nat}(hc:uC c sz){l:List α}{k:Nat}{x:α}(h:zW l (k:Int)=some x):(zG c l).drop (k*sz)=c x++zG c (l.drop (k+1)):=by
 obtain⟨_,_,h2⟩:=dW h
 exact zCl hc.len (by simpa using h2)
theorem zNL{α:Type}{c:α->List AV}{sz:Nat}(hc:uC c sz){l:List α}{k off:Nat}{x:α}(h:zW l (k:Int)=some x):(zG c l).drop (k*sz+off)=(c x++zG c (l.drop (k+1))).drop off:=by
 rw[←List.drop_drop,zJr hc h]
theorem zEb{α:Type}{c:α->List AV}{sz:Nat}(hc:∀x,(c x).length=sz):∀(l:List α) (k:Nat) (x:α),k<l.length->splice (zG c l) (k*sz) (c x)=zG c (l.set k x)
 | [],k,x,h=>by simp at h
 |y::l,0,x,h=>by
  simp only[splice,Nat.zero_mul,List.take_zero,List.nil_append,Nat.zero_add,zG,List.flatMap_cons,List.set_cons_zero]
  rw[List.drop_left' (by rw[hc,hc])]
 |y::l,k+1,x,h=>by
  have ih:=zEb hc l k x (by simpa using h)
  simp only[splice,zG]at ih
  simp only[splice,zG,List.flatMap_cons,List.set_cons_succ]
  rw[←ih]
  have e:(k+1)*sz=sz+k*sz:=by rw[Nat.add_mul,Nat.one_mul,Nat.add_comm]
  rw[e,List.take_append,List.take_of_length_le (by rw[hc];omega),hc,Nat.add_sub_cancel_left,show sz+k*sz+(c x).length=sz+(k*sz+(c x).length) by omega,←List.drop_drop,List.drop_left' (hc y)]
  simp only[List.append_assoc]
theorem zRM{P:Program}{α:Type}{c:α->List AV}{sz:Nat}(hc:uC c sz){l l2:List α}{k:Nat}{x:α}(h:N5 l k x=some l2):Ob.ok P (.wt (zG c l) (k*sz) (.agg (c x)) sz (zG c l2)):=by
 unfold N5 at h
 split at h
 ·rename_i hk
  cases h
  refine⟨hc.one x,hc.len x,?_,zEb hc.len l k x hk⟩
  rw[vW hc.len]
  have:=Nat.mul_le_mul_right sz (show k+1≤l.length from hk)
  rw[Nat.add_mul,Nat.one_mul]at this
  exact this
 ·cases h
theorem zRN{P:Program}{t e:TypeId}{ie:TypeInfo}(ht:P.underlying t=some (.slice e))(hi:P.info? e=some ie){sz:Nat}(hs:ie.size=sz){b o n k c z:Nat}{i:Int}(h:iM n i=some k) :
  xQ P t (.ms b (o*sz) n c z) (ai i)=some (.mp b ((o+k)*sz)):=by
 unfold iM at h
 split at h
 ·rename_i hc
  cases h
  unfold xQ
  simp only[ht,hi]
  rw[if_pos hc,hs,Nat.add_mul]
 ·cases h
def kT(n:Nat)(a b:Int):Option (Nat×Nat):=if 0≤a∧a≤b∧b≤n then some (a.toNat,(b-a).toNat)else none
theorem N6{n:Nat}{a b:Int}{r:Nat×Nat}(h:kT n a b=some r):0≤a∧a≤b∧b≤n∧r.1=a.toNat∧r.2=b.toNat-a.toNat:=by
 unfold kT at h
 split at h
 ·rename_i q
  cases h
  exact⟨q.1,q.2.1,q.2.2,rfl,by show (b-a).toNat=_;omega⟩
 ·cases h
theorem zEa{P:Program}{t e:TypeId}{ie:TypeInfo}(ht:P.underlying t=some (.slice e))(hi:P.info? e=some ie){sz:Nat}(hs:ie.size=sz)(h1:1≤sz){b o n c m:Nat}{x y:Int}{r:Nat×Nat}{lo hi':Option AV}(hm:msb n c hi' none=m)(h:kT m x y=some r)
  (hlo:∀h,xS h 0 lo=if 0≤x∧x≤h then some x.toNat else none) (hhi:xS m m hi'=if 0≤y∧y≤m then some y.toNat else none) :
  vH P t (.ms b (o*sz) n c sz) lo hi' none=some (.ms b ((o+r.1)*sz) r.2 (c-r.1) sz):=by
 obtain⟨q1,q2,q3,q4,q5⟩:=N6 h
 subst hs
 unfold vH
 simp only[ht,hi,amx,hm,hhi]
 rw[if_pos ⟨by omega,q3⟩]
 simp only[hlo]
 rw[if_neg (by simp),if_pos ⟨q1,by omega⟩]
 simp only
 rw[if_pos ⟨trivial,h1⟩,q4,q5,Nat.add_mul]
 rfl
theorem zVy{P:Program}{t e:TypeId}{ie:TypeInfo}(ht:P.underlying t=some (.slice e))(hi:P.info? e=some ie){sz:Nat}(hs:ie.size=sz)(h1:1≤sz){b o n c:Nat}{x y:Int}{r:Nat×Nat}(h:kT c x y=some r) :
  vH P t (.ms b (o*sz) n c sz) (some (ai x)) (some (ai y)) none=some (.ms b ((o+r.1)*sz) r.2 (c-r.1) sz):=zEa ht hi hs h1 rfl h (fun _=>rfl) rfl
theorem Z8{P:Program}{t e:TypeId}{ie:TypeInfo}(ht:P.underlying t=some (.slice e))(hi:P.info? e=some ie){sz:Nat}(hs:ie.size=sz)(h1:1≤sz){b o n c:Nat}{x:Int}{r:Nat×Nat}(h:kT n x n=some r) :
  vH P t (.ms b (o*sz) n c sz) (some (ai x)) none none=some (.ms b ((o+r.1)*sz) r.2 (c-r.1) sz):=zEa ht hi hs h1 rfl h (fun _=>rfl) (by simp[xS,msb])
theorem zNM{P:Program}{t e:TypeId}{ie:TypeInfo}(ht:P.underlying t=some (.slice e))(hi:P.info? e=some ie){sz:Nat}(hs:ie.size=sz)(h1:1≤sz){b off n c:Nat}{y:Int}{r:Nat×Nat}(h:kT c 0 y=some r) :
  vH P t (.ms b off n c sz) none (some (ai y)) none=some (.ms b off r.2 c sz):=by
 obtain⟨q1,q2,q3,q4,q5⟩:=N6 h
 subst hs
 have h2:xS c c (some (ai y))=some y.toNat:=by
  show (if 0≤y∧y≤(c:Int)then some y.toNat else none)=_
  rw[if_pos ⟨by omega,q3⟩]
 unfold vH
 simp only[ht,hi,amx,show msb n c (some (ai y)) none=c from rfl,h2]
 rw[if_neg (by simp)]
 simp only[xS]
 rw[if_pos ⟨trivial,h1⟩,q5]
 simp
theorem zLl{P:Program}{t e:TypeId}{ie:TypeInfo}(ht:P.underlying t=some (.slice e))(hi:P.info? e=some ie){sz:Nat}(hs:ie.size=sz)(h1:1≤sz)(b off n c:Nat) :
  vH P t (.ms b off n c sz) none (some (ai (n:Int))) (some (ai (n:Int)))=some (.ms b off n n sz):=by
 subst hs
 have hc:M5 n (ai (n:Int))=some n:=by
  show (if 0≤(n:Int)∧(n:Int)≤(n:Int)then some (n:Int).toNat else none)=_
  rw[if_pos ⟨by omega,by omega⟩,Int.toNat_natCast]
 have hd:xS n n (some (ai (n:Int)))=some n:=hc
 unfold vH
 simp only[ht,hi,show msb n c (some (ai (n:Int))) (some (ai (n:Int)))=n from rfl,amx,hc,Option.map_some,hd]
 rw[if_neg (by simp)]
 simp only[xS]
 rw[if_pos ⟨trivial,h1⟩]
 simp
theorem zRO{P:Program}{t e:TypeId}{ie:TypeInfo}(ht:P.underlying t=some (.slice e))(hi:P.info? e=some ie){sz:Nat}(hs:ie.size=sz)(h1:1≤sz){b o n c:Nat}{x y:Int}{r:Nat×Nat}(h:kT n x y=some r) :
  vH P t (.ms b (o*sz) n c sz) (some (ai x)) (some (ai y)) (some (ai (n:Int)))=some (.ms b ((o+r.1)*sz) r.2 (n-r.1) sz):=by
 obtain⟨q1,q2,q3,q4,q5⟩:=N6 h
 subst hs
 have hc:M5 n (ai (n:Int))=some n:=by
  show (if 0≤(n:Int)∧(n:Int)≤(n:Int)then some (n:Int).toNat else none)=_
  rw[if_pos ⟨by omega,by omega⟩,Int.toNat_natCast]
 have hd:xS n n (some (ai y))=some y.toNat:=by
  show (if 0≤y∧y≤(n:Int)then some y.toNat else none)=_
  rw[if_pos ⟨by omega,q3⟩]
 have he:xS y.toNat 0 (some (ai x))=some x.toNat:=by
  show (if 0≤x∧x≤(y.toNat:Int)then some x.toNat else none)=_
  rw[if_pos ⟨q1,by omega⟩]
 unfold vH
 simp only[ht,hi,show msb n c (some (ai y)) (some (ai (n:Int)))=n from rfl,amx,hc,Option.map_some,hd]
 rw[if_neg (by simp)]
 simp only[he]
 rw[if_pos ⟨trivial,h1⟩,q4,q5,Nat.add_mul]
 rfl
theorem ldF{P:Program}{α:Type}{c:α->List AV}{sz:Nat}(hc:uC c sz){l:List α}{k:Nat}{x:α}(h:zW l (k:Int)=some x)(off:Nat)(q:Bool×Nat){val:AV}(e:qO q ((c x++zG c (l.drop (k+1))).drop off)=some val) :
  Ob.ok P (.ld (qO q ((zG c l).drop (k*sz+off))) val):=by
 show qO q _=some val
 rw[zNL hc h,e]
theorem ldE{P:Program}{α:Type}{c:α->List AV}{sz:Nat}(hc:uC c sz){l:List α}{k:Nat}{x:α}(h:zW l (k:Int)=some x)(q:Bool×Nat){val:AV}(e:qO q (c x++zG c (l.drop (k+1)))=some val) :
  Ob.ok P (.ld (qO q ((zG c l).drop (k*sz))) val):=by
 show qO q _=some val
 rw[zJr hc h,e]
theorem zLk{α:Type}{c:α->List AV}{sz:Nat}(hc:∀x,(c x).length=sz){l:List α}{k off:Nat}{x x':α}{vs:List AV}(h:l[k]? = some x)(hv:off+vs.length≤sz)(e:splice (c x) off vs=c x') :
  splice (zG c l) (k*sz+off) vs=zG c (l.set k x'):=by
 obtain⟨hk,hx⟩:=List.getElem?_eq_some_iff.1 h
 have h1:l=l.take k++x::l.drop (k+1):=by
  rw[←hx];simp
 have h2:l.set k x'=l.take k++x'::l.drop (k+1):=List.set_eq_take_append_cons_drop.trans (by rw[if_pos hk])
 have hlen:(zG c (l.take k)).length=k*sz:=by rw[vW hc,List.length_take,Nat.min_eq_left (Nat.le_of_lt hk)]
 have e1:zG c l=zG c (l.take k)++(c x++zG c (l.drop (k+1))):=by
  conv=>lhs;rw[h1]
  rw[←eE];simp[zG]
 have e2:zG c (l.set k x')=zG c (l.take k)++(c x'++zG c (l.drop (k+1))):=by
  rw[h2,←eE];simp[zG]
 rw[e1,e2,←e]
 clear e1 e2 h1 h2
 generalize zG c (l.drop (k+1))=R
 generalize zG c (l.take k)=A at hlen ⊢
 simp only[splice]
 rw[List.take_append,List.take_of_length_le (by rw[hlen];omega),hlen,Nat.add_sub_cancel_left,show k*sz+off+vs.length=k*sz+(off+vs.length) by omega,List.drop_append,List.drop_of_length_le (by rw[hlen];omega),hlen,Nat.add_sub_cancel_left]
 rw[List.take_append_of_le_length (by rw[hc];omega),List.drop_append_of_le_length (by rw[hc];omega)]
 simp
theorem wtF{P:Program}{α:Type}{c:α->List AV}{sz:Nat}(hc:uC c sz){l l2:List α}{k:Nat}{x x':α}(hx:zW l (k:Int)=some x)(h:N5 l k x'=some l2)(off m:Nat)(v:AV)(hs:v.sound=true)(hm:(rG v).length=m)(ho:off+m≤sz)(e:splice (c x) off (rG v)=c x') :
  Ob.ok P (.wt (zG c l) (k*sz+off) v m (zG c l2)):=by
 unfold N5 at h
 split at h
 ·rename_i hk
  cases h
  obtain⟨_,_,h2⟩:=dW hx
  refine⟨hs,hm,?_,zLk hc.len (by simpa using h2) (by omega) e⟩
  rw[vW hc.len]
  have:=Nat.mul_le_mul_right sz (show k+1≤l.length from hk)
  rw[Nat.add_mul,Nat.one_mul]at this
  omega
 ·cases h
theorem wtE{P:Program}{α:Type}{c:α->List AV}{sz:Nat}(hc:uC c sz){l l2:List α}{k:Nat}{x:α}{cs:List AV}(he:c x=cs)(h:N5 l k x=some l2):Ob.ok P (.wt (zG c l) (k*sz) (.agg cs) sz (zG c l2)):=he▸zRM hc h
def bH{α:Type}(l:List α)(o n:Nat):Option (List α):=if o+n≤l.length then some ((l.drop o).take n)else none
theorem aF{α:Type}{l r:List α}{o n:Nat}(h:bH l o n=some r):r=(l.drop o).take n∧r.length=n:=by
 unfold bH at h
 split at h
 ·cases h
  exact⟨rfl,by rw[List.length_take,List.length_drop];omega⟩
 ·cases h
theorem N7{P:Program}{α:Type}{c:α->List AV}{sz:Nat}(hc:uC c sz){t e:TypeId}{ie:TypeInfo}{z:Value}(ht:P.underlying t=some (.slice e))(hi:P.info? e=some ie)(hs:ie.size=sz)(hz:ie.zero=some z)(hzs:z.cells.size=sz)(h1:1≤sz){B:Nat}(hb:ie.bytes=B)(hB:1≤B)
  {l m r:List α} (h:xF B l m=some r) (hm:m.length≠0) (z1:Option Nat) (hz1:∀q,z1=some q->q=sz) (src:Option (Nat×Nat×Nat)) (hsrc:∀q,src=some q->q.2.2=sz) :
  cQ P t t z1 (zG c l) l.length src (zG c m) m.length=some (zG c r,r.length):=by
 obtain⟨h2,rfl⟩:=mN h
 subst hs
 subst hb
 have h3:(l.length+m.length)*1≤(l.length+m.length)*ie.bytes:=Nat.mul_le_mul_left _ hB
 unfold cQ
 simp only[ht,hi,hz]
 rw[if_pos ⟨trivial,vW hc.len l,vW hc.len m,h1,hzs,h2,by omega,D2 hc.one m,hm,hz1,hsrc⟩,eE,List.length_append]
theorem Z9{α:Type}{c:α->List AV}{sz:Nat}(hc:∀x,(c x).length=sz)(l:List α)(o n:Nat):bF (zG c l) (o*sz) n sz=zG c ((l.drop o).take n):=by
 unfold bF
 rw[jG hc,jH hc]
theorem zEA{P:Program}{α:Type}{c:α->List AV}{sz:Nat}(hc:uC c sz){t e:TypeId}{ie:TypeInfo}{z:Value}(ht:P.underlying t=some (.slice e))(hi:P.info? e=some ie)(hs:ie.size=sz)(hz:ie.zero=some z)(hzs:z.cells.size=sz)(h1:1≤sz){B:Nat}(hb:ie.bytes=B)(hB:1≤B)
  {m r:List α} (h:xF B ([]:List α) m=some r) (hm:m.length≠0):Ob.ok P (.mk (cQ P t t none [] 0 none (zG c m) m.length) (zG c r) r.length):=
 N7 hc ht hi hs hz hzs h1 hb hB h hm none (fun _ h=>nomatch h) none (fun _ h=>nomatch h)
theorem D9{P:Program}{α:Type}{c:α->List AV}{sz:Nat}(hc:uC c sz){t e:TypeId}{ie:TypeInfo}{z:Value}(ht:P.underlying t=some (.slice e))(hi:P.info? e=some ie)(hs:ie.size=sz)(hz:ie.zero=some z)(hzs:z.cells.size=sz)(h1:1≤sz){B:Nat}(hb:ie.bytes=B)(hB:1≤B)
  {l m r:List α} (h:xF B l m=some r) (hm:m.length≠0):Ob.ok P (.mk (cQ P t t (some sz) (zG c l) l.length none (zG c m) m.length) (zG c r) r.length):=
 N7 hc ht hi hs hz hzs h1 hb hB h hm _ (fun _ h=>(Option.some.inj h).symm) none (fun _ h=>nomatch h)
theorem zLj{P:Program}{α:Type}{c:α->List AV}{sz:Nat}(hc:uC c sz){t e:TypeId}{ie:TypeInfo}{z:Value}(ht:P.underlying t=some (.slice e))(hi:P.info? e=some ie)(hs:ie.size=sz)(hz:ie.zero=some z)(hzs:z.cells.size=sz)(h1:1≤sz){B:Nat}(hb:ie.bytes=B)(hB:1≤B)
  {l l' m r:List α} {n:Nat} (hf:gfz n l=some l') (h:xF B l' m=some r) (hm:m.length≠0):Ob.ok P (.mk (cQ P t t (some sz) (zG c l) n none (zG c m) m.length) (zG c r) r.length):=by
 obtain⟨rfl,rfl⟩:=nH hf
 exact D9 hc ht hi hs hz hzs h1 hb hB h hm
theorem zNN{P:Program}{α:Type}{c:α->List AV}{sz:Nat}(hc:uC c sz){t e:TypeId}{ie:TypeInfo}{z:Value}(ht:P.underlying t=some (.slice e))(hi:P.info? e=some ie)(hs:ie.size=sz)(hz:ie.zero=some z)(hzs:z.cells.size=sz)(h1:1≤sz){B:Nat}(hb:ie.bytes=B)(hB:1≤B)
  {l m' m r:List α} {o n j:Nat} (hp:bH m' o n=some m) (h:xF B l m=some r) (hm:m.length≠0):Ob.ok P (.mk (cQ P t t (some sz) (zG c l) l.length (some (j,j,sz)) (bF (zG c m') (o*sz) n sz) n) (zG c r) r.length):=by
 obtain⟨rfl,hn⟩:=aF hp
 rw[Z9 hc.len]
 have:=N7 hc ht hi hs hz hzs h1 hb hB h hm (some sz) (fun _ h=>(Option.some.inj h).symm) (some (j,j,sz)) (fun _ h=>by cases h;rfl)
 rw[hn]at this
 exact this
theorem zRP{P:Program}{α:Type}{c:α->List AV}{sz:Nat}(hc:uC c sz){t e:TypeId}{ie:TypeInfo}(ht:P.underlying t=some (.slice e))(hi:P.info? e=some ie)(hs:ie.size=sz){l m r:List α}{n k:Nat}(hr:r=l.take n++m)(hn:n≤l.length)(hk:n+m.length≤k)(src:Option Nat)(hsrc:∀q,src=some q->q=sz) :
  zHw P t t sz (zG c l) n k src (zG c m) m.length=some (zG c r):=by
 subst hs
 subst hr
 unfold zHw
 simp only[ht,hi]
 rw[if_pos ⟨trivial,trivial,by rw[vW hc.len];exact Nat.mul_le_mul_right _ hn,vW hc.len m,hk,D2 hc.one m,hsrc⟩,jH hc.len,eE]
def zLi{α:Type}(c n:Nat)(l m:List α):Option (List α):=if n+m.length≤c∧n≤l.length then some (l.take n++m)else none
theorem zLh{α:Type}{c n:Nat}{l m r:List α}(h:zLi c n l m=some r):r=l.take n++m∧n≤l.length∧n+m.length≤c:=by
 unfold zLi at h
 split at h
 ·rename_i q;cases h;exact⟨rfl,q.2,q.1⟩
 ·cases h
theorem zNO{P:Program}{α:Type}{c:α->List AV}{sz:Nat}(hc:uC c sz){t e:TypeId}{ie:TypeInfo}(ht:P.underlying t=some (.slice e))(hi:P.info? e=some ie)(hs:ie.size=sz){l m' m r:List α}{n k o n2:Nat}(hp:bH m' o n2=some m)(h:zLi k n l m=some r) :
  Ob.ok P (.inp (zHw P t t sz (zG c l) n k (some sz) (bF (zG c m') (o*sz) n2 sz) n2) (zG c r)):=by
 obtain⟨rfl,hn⟩:=aF hp
 obtain⟨q1,q2,q3⟩:=zLh h
 rw[Z9 hc.len]
 have:=zRP hc ht hi hs q1 q2 q3 (some sz) (fun _ h=>(Option.some.inj h).symm)
 rw[hn]at this
 exact this
def gle(a b:Nat):Option Unit:=if a≤b then some ()else none
theorem zNP{a b:Nat}{u:Unit}(h:gle a b=some u):a≤b:=by
 unfold gle at h
 split at h
 ·assumption
 ·cases h
theorem zVw{P:Program}{t e:TypeId}{ie:TypeInfo}{zv:Value}(ht:P.underlying t=some (.slice e))(hi:P.info? e=some ie)(hz:ie.zero=some zv){sz:Nat}(hzs:zv.cells.size=sz)(h1:zv.cells.toList.all Value.oneCell'=true){l off:Nat}(h:l≤off):Ob.ok P (.clr t l off sz):=
 ⟨h,e,ie,zv,ht,hi,hz,hzs,h1⟩
theorem yAS{P:Program}{α:Type}{c:α->List AV}{sz:Nat}(hc:uC c sz){t e:TypeId}{ie:TypeInfo}{zv:Value}(ht:P.underlying t=some (.slice e))(hi:P.info? e=some ie)(hz:ie.zero=some zv)(hzs:zv.cells.size=sz)(h1:zv.cells.toList.all Value.oneCell'=true){l:List α}{o:Nat}{u:Unit}(h:gle l.length o=some u):Ob.ok P (.clr t (zG c l).length (o*sz) sz):=
 zVw ht hi hz hzs h1 (by rw[vW hc.len];exact Nat.mul_le_mul_right _ (zNP h))
theorem zCe{P:Program}{t e:TypeId}{ie:TypeInfo}(ht:P.underlying t=some (.slice e))(hi:P.info? e=some ie){n:Nat}(h:n=0):Ob.ok P (.same t t n):=⟨rfl,h,e,ie,ht,hi⟩
def nV:List (Int×Int)->Nat->List MapEntry
 | [],_=>[]
 |p::m,c=>{ key:=.int .i64 p.1,val:=.int .i64 p.2,born:=c } :: nV m (c+1)
def aG(m:List (Int×Int)):yO:=.obj (.map ⟨nV m 0⟩ m.length)
def fL:List (Int×Int)->Int->Option Int
 | [],_=>none
 |p::m,k=>if (k==p.1)=true then some p.2 else fL m k
def zHf(m:List (Int×Int))(k:Int):Int:=match fL m k with|some v=>v|none=>0
def N8(m:List (Int×Int))(k:Int):Bool:=match fL m k with|some _=>true|none=>false
def cT:List (Int×Int)->Int->Int->List (Int×Int)
 | [],k,v=>[(k,v)]
 |p::m,k,v=>if (k==p.1)=true then(k,v)::m else p::cT m k v
def E0:List (Int×Int)->Int->Nat->Option (Nat×Value)
 | [],_,_=>none
 |p::m,k,i=>if (k==p.1)=true then some (i,.int .i64 p.2)else E0 m k (i+1)
theorem iN(k:Int):∀(m:List (Int×Int)) (c i:Nat),Instr.findNow (.int .i64) (.int .i64 k) (nV m c) i=some (E0 m k i)
 | [],_,_=>rfl
 |p::m,c,i=>by
  simp only[nV,Instr.findNow,Instr.sameNow,E0,if_true]
  cases hb:(k==p.1)with
  |true=>rfl
  |false=>simp only[Bool.false_eq_true,if_false];exact iN k m (c+1) (i+1)
theorem z7(k:Int):∀(m:List (Int×Int)) (i:Nat),(E0 m k i).map Prod.snd=(fL m k).map (Value.int .i64)
 | [],_=>rfl
 |p::m,i=>by
  simp only[E0,fL]
  cases hb:(k==p.1)with
  |true=>rfl
  |false=>simp only[Bool.false_eq_true,if_false];exact z7 k m (i+1)
theorem zNQ(k:Int)(m:List (Int×Int)):zKR (E0 m k 0) (.int .i64 0)=ai (zHf m k):=by
 have h:=z7 k m 0
 unfold zHf
 cases h1:E0 m k 0<;>cases h2:fL m k<;>rw[h1,h2]at h
 ·rfl
 ·cases h
 ·cases h
 ·simp only[Option.map_some,Option.some.injEq]at h
  rename_i q v
  obtain⟨j,u⟩:=q
  simp only at h
  subst h
  rfl
theorem zNR(k:Int)(m:List (Int×Int)):(E0 m k 0).isSome=N8 m k:=by
 have h:=z7 k m 0
 unfold N8
 cases h1:E0 m k 0<;>cases h2:fL m k<;>rw[h1,h2]at h
 ·rfl
 ·cases h
 ·cases h
 ·rfl
theorem E1:∀(m:List (Int×Int)) (c:Nat),(nV m c).length=m.length
 | [],_=>rfl
 |_::m,c=>by simp[nV,E1 m (c+1)]
theorem zEB(k v:Int):∀(m:List (Int×Int)) (c i:Nat),
    (match E0 m k i with
      |some (j,_)=>i≤j∧(nV m c).modify (j-i) (fun e=>{ e with key:=.int .i64 k,val:=.int .i64 v })=nV (cT m k v) c∧(cT m k v).length=m.length
      |none=>nV m c++[{ key:=.int .i64 k,val:=.int .i64 v,born:=c+m.length }]=nV (cT m k v) c∧(cT m k v).length=m.length+1)
  | [],c,i=>by simp[E0,cT,nV]
  |p::m,c,i=>by
    simp only[E0,cT]
    cases hb:(k==p.1)with
    |true=>simp[nV]
    |false=>
      simp only[Bool.false_eq_true,if_false]
      have ih:=zEB k v m (c+1) (i+1)
      cases hm:E0 m k (i+1)with
      |none=>
        rw[hm]at ih
        simp only at ih ⊢
        refine⟨?_,by simp[ih.2]⟩
        simp only[nV,List.cons_append,List.length_cons]
        rw[←ih.1,show c+(m.length+1)=c+1+m.length by omega]
      |some q=>
        obtain⟨j,u⟩:=q
        rw[hm]at ih
        simp only at ih ⊢
        refine⟨by omega,?_,by simp[ih.2.2]⟩
        simp only[nV]
        rw[show j-i=(j-(i+1))+1 by omega,List.modify_succ_cons,ih.2.1]
variable {P:Program} {t kt et:TypeId} {ie:TypeInfo}
theorem zVv(ht:P.underlying t=some (.map kt et))(hk:P.underlying kt=some (.int .i64))(he:P.info? et=some ie)(hz:ie.zero=some (.int .i64 0))(m:List (Int×Int))(k:Int) :
  Ob.ok P (.lk t (aG m) (ai k) true (.tup [ai (zHf m k),ab (N8 m k)])):=by
 intro ev i s hl
 unfold lZ
 simp only[ht,ai,hk,he,aG]at hl ⊢
 simp only[hl,hz,iN,sT,cond_true,if_true,zNQ,zNR]
theorem zVu(ht:P.underlying t=some (.map kt et))(hk:P.underlying kt=some (.int .i64))(m:List (Int×Int))(k v:Int) :
  Ob.ok P (.mu t (aG m) (ai k) (ai v) (aG (cT m k v))):=by
 intro ev i s hl
 unfold rH
 simp only[ht,ai,hk,aG]at hl ⊢
 simp only[hl,iN,sT,cond_true]
 have h:=zEB k v m 0 0
 cases hm:E0 m k 0 with
 |none=>
  rw[hm]at h
  simp only[Nat.zero_add]at h ⊢
  rw[h.2,←h.1]
  simp
 |some q=>
  obtain⟨j,u⟩:=q
  rw[hm]at h
  simp only[Nat.sub_zero]at h ⊢
  have e:(⟨nV m 0⟩:Array MapEntry).modify j (fun e=>{ e with key:=.int .i64 k,val:=.int .i64 v })=⟨nV (cT m k v) 0⟩:=by
   apply Array.ext'
   rw[Array.toList_modify]
   exact h.2.1
  rw[h.2.2,e]
theorem zVt(ht:P.underlying t=some (.map kt et))(m:List (Int×Int)):Ob.ok P (.ln t (aG m) (ai (m.length:Int))):=
 ⟨_,_,_,_,rfl,ht,by simp[goInt,E1]⟩
end Go.Ab
namespace Go.Ab
open Go Go.RowKit
abbrev zV {α:Type} (c:α->List AV) (l:List α) (o:qT):AV:=.sl (zG c l) l.length o
abbrev M4 (n:Nat):List fH:=List.replicate n .no
structure OL (P:Program) (os:List fH) (ob:List Ob):Prop where
 ok:yJ P ob
theorem yJ.rev{P:Program}:∀(a b:List Ob),yJ P a->yJ P b->yJ P (a.reverseAux b)
 | [],_,_,k=>k
 |x::a,b,h,k=>yJ.rev a (x::b) h.2 ⟨h.1,k⟩
section
variable {P:Program} {os:List fH} {ob:List Ob}
theorem OL.nil:OL P [] []:=⟨trivial⟩
theorem oB{b b':Bool}(n:Nat)(h:b=b')(k:OL P os ob):OL P (.bit b'::(M4 n++os)) (.bit b b'::ob):=⟨⟨h,k.ok⟩⟩
theorem oA{x:Option AV}{a:AV}(n:Nat)(h:x=some a)(k:OL P os ob):OL P (.av a::(M4 n++os)) (.av x a::ob):=⟨⟨h,k.ok⟩⟩
theorem oC{f:FuncId}{H0:List yO}{args:List AV}{res:AV}{H1:List yO}{nst:Nat}(n:Nat)(ι:List Nat)(h:CT P f H0 args res H1 nst)(k:OL P os ob):OL P (.call ι H1 nst res none::(M4 n++os)) (.call f H0 args res H1 nst::ob):=⟨⟨h,k.ok⟩⟩
theorem oK{b b':Bool}{f:FuncId}{H0:List yO}{args:List AV}{res:AV}{H1:List yO}{nst:Nat}(n:Nat)(ι:List Nat)(hb:b=b')(h:CT P f H0 args res H1 nst)(k:OL P os ob):OL P (.call ι H1 nst res (some b')::(M4 n++os)) (.call f H0 args res H1 nst :: .bit b b'::ob):=⟨⟨h,hb,k.ok⟩⟩
theorem oF{x:Option AV}{a:AV}(n:Nat)(h:∃a0,x=some a0∧a0.frz=a)(k:OL P os ob):OL P (.fz a::(M4 n++os)) (.fz x a::ob):=⟨⟨h,k.ok⟩⟩
theorem oP{t t2:TypeId}{es es2 es':List AV}{n1 n2 n' sz:Nat}{e:Bool}(n:Nat)(h:Ob.ok P (.app t t2 es es2 es' n1 n2 n' sz e))(k:OL P os ob):OL P (.app es' n' sz e::(M4 n++os)) (.app t t2 es es2 es' n1 n2 n' sz e::ob):=⟨⟨h,k.ok⟩⟩
theorem oS{cs es:List AV}{l m:Nat}(n:Nat)(h:Ob.ok P (.cells cs es l m))(k:OL P os ob):OL P (.sl es m::(M4 n++os)) (.cells cs es l m::ob):=⟨⟨h,k.ok⟩⟩
theorem oL{t:TypeId}{X:yO}{key:AV}{o:Bool}{a:AV}(n:Nat)(h:Ob.ok P (.lk t X key o a))(k:OL P os ob):OL P (.lk a::(M4 n++os)) (.lk t X key o a::ob):=⟨⟨h,k.ok⟩⟩
theorem oU{t:TypeId}{X Y:yO}{key v:AV}(n:Nat)(h:Ob.ok P (.mu t X key v Y))(k:OL P os ob):OL P (.mu Y::(M4 n++os)) (.mu t X key v Y::ob):=⟨⟨h,k.ok⟩⟩
theorem oM{x:Option (List AV×Nat)}{cs:List AV}{m:Nat}(n:Nat)(h:Ob.ok P (.mk x cs m))(k:OL P os ob):OL P (.mk cs m::(M4 n++os)) (.mk x cs m::ob):=⟨⟨h,k.ok⟩⟩
theorem oG{x:Option AV}{a:AV}(n:Nat)(h:Ob.ok P (.ld x a))(k:OL P os ob):OL P (.ld a::(M4 n++os)) (.ld x a::ob):=⟨⟨h,k.ok⟩⟩
theorem oW{cs:List AV}{off:Nat}{v:AV}{sz:Nat}{cs':List AV}(n:Nat)(h:Ob.ok P (.wt cs off v sz cs'))(k:OL P os ob):OL P (.wt cs'::(M4 n++os)) (.wt cs off v sz cs'::ob):=⟨⟨h,k.ok⟩⟩
theorem oN{t:TypeId}{X:yO}{a:AV}(n:Nat)(h:Ob.ok P (.ln t X a))(k:OL P os ob):OL P (.lk a::(M4 n++os)) (.ln t X a::ob):=⟨⟨h,k.ok⟩⟩
theorem oI{x:Option (List AV)}{cs:List AV}(n:Nat)(h:Ob.ok P (.inp x cs))(k:OL P os ob):OL P (.inp cs::(M4 n++os)) (.inp x cs::ob):=⟨⟨h,k.ok⟩⟩
theorem oQ{t t2:TypeId}{m:Nat}(n:Nat)(h:Ob.ok P (.same t t2 m))(k:OL P os ob):OL P (.same::(M4 n++os)) (.same t t2 m::ob):=⟨⟨h,k.ok⟩⟩
theorem oR{t:TypeId}{l off z:Nat}(n:Nat)(h:Ob.ok P (.clr t l off z))(k:OL P os ob):OL P (.clr::(M4 n++os)) (.clr t l off z::ob):=⟨⟨h,k.ok⟩⟩
theorem oD{es:List AV}(h:AV.DataL es)(k:OL P os ob):OL P os (.data es::ob):=⟨⟨h,k.ok⟩⟩
end
theorem zU{α:Type}{b:Bool}{x y:Option α}{r:α}(h:(if b=true then x else y)=some r):(b=true∧x=some r)∨(b=false∧y=some r):=by
 cases b
 ·exact .inr ⟨rfl,by simpa using h⟩
 ·exact .inl ⟨rfl,by simpa using h⟩
theorem spT{α:Type}{b:Bool}{x:Option α}{r:α}(h:(if b=true then x else none)=some r):b=true∧x=some r:=by
 rcases zU h with h|⟨_,h⟩
 ·exact h
 ·cases h
theorem zXT{α:Type}{b:Bool}{x:Option α}{r:α}(h:(if b=true then none else x)=some r):b=false∧x=some r:=by
 rcases zU h with⟨_,h⟩|h
 ·cases h
 ·exact h
theorem nn{α:Type}{r:α}{p:Prop}(h:(none:Option α)=some r):p:=nomatch h
theorem zRQ{α:Type}{b:Bool}{x y:α}(h:b=true):(if b=true then x else y)=x:=if_pos h
theorem zNS{α:Type}{b:Bool}{x y:α}(h:b=false):(if b=true then x else y)=y:=by subst h;rfl
theorem sj{α:Type}{x y:α}(h:some x=some y):x=y:=Option.some.inj h
def sp(j:Nat->Value):Nat->Nat->List (Nat×AV)->List AV
 |0,_,_=>[]
 |n+1,i,l=>match l with
  | []=>.val (j i)::sp j n (i+1) []
  | (m,a)::l'=>bif Nat.beq m i then a::sp j n (i+1) l' else .val (j i)::sp j n (i+1) l
section
variable {P:Program} {pr:FuncId->List AV->xA->Option LA} (hp:nB P pr) (hm:P.follows .mixedOrders=true) {na:Nb} {fn:Func} {f:FuncId}
include hp hm
theorem OL.toHead{H0 H1:List yO}{args:List AV}{res:AV}{nst:Nat}(q:P.funcs[f]? = some fn∧fn.body.isNone=false)(m:Nat)(rs:List (Option Nat×Nat×Nat))(keep ks live:List Nat){os:List fH}{ob:List Ob}(k:OL P os ob){c:Code}{fs':List Fr}{E:(Nat->Value)->List AV}{S:xA}
  (hk:∀j,Dl P H0.length c (E j) S (uH P H0.length (Y8 P H0.length fn res H1 nst) fs'))
  (h:∀j,eC P pr H0.length 3000 (.run (rV fn)) [] (args++List.replicate (fn.ntmps-args.length) (.val undef)) (S1 H0) ((M4 m++os).reverseAux []) rs keep ks live j=some (c,fs',E j,S,ob.reverseAux [])):tU P f H0 args res H1 nst:=
 tU.toHead hp hm q.1 q.2 3000 _ rs keep ks live h (yJ.rev _ _ k.ok trivial) hk
theorem OL.toFin{H0 H1:List yO}{args:List AV}{res:AV}{nst:Nat}(q:P.funcs[f]? = some fn∧fn.body.isNone=false)(m:Nat)(rs:List (Option Nat×Nat×Nat))(keep ks:List Nat)(own:Bool){os:List fH}{ob:List Ob}(k:OL P os ob)
  (h:aB P pr H0.length fn 3000 (.run (rV fn)) [] (args++List.replicate (fn.ntmps-args.length) (.val undef)) (S1 H0) ((M4 m++os).reverseAux []) rs keep ks own=some (res,H1,ob.reverseAux [])) (hn:nst≤ks.length):tU P f H0 args res H1 nst:=
 tU.toFin hp hm q.1 q.2 3000 _ rs keep ks own h (yJ.rev _ _ k.ok trivial) hn
theorem OL.lHead{Q:AX->List AV->xA->Prop}{c c':Code}{fs fs':List Fr}{env:List AV}{s S:xA}(m:Nat)(rs:List (Option Nat×Nat×Nat))(keep ks live:List Nat){os:List fH}{ob:List Ob}(k:OL P os ob){E:(Nat->Value)->List AV}
  (hk:∀j,Dl P na c' (E j) S (uH P na Q fs')) (h:∀j,eC P pr na.n 3000 (.run c) (.loop c::fs) env s ((M4 m++os).reverseAux []) rs keep ks live j=some (c',fs',E j,S,ob.reverseAux [])):Dl P na c env s (uH P na Q fs):=
 Dl.toHead hp hm 3000 _ rs keep ks live h (yJ.rev _ _ k.ok trivial) hk
theorem OL.lFin{c:Code}{fs:List Fr}{env:List AV}{s:xA}{res:AV}{H1:List yO}{nst:Nat}(m:Nat)(rs:List (Option Nat×Nat×Nat))(keep ks:List Nat)(own:Bool){os:List fH}{ob:List Ob}(k:OL P os ob)
  (h:aB P pr na.n fn 3000 (.run c) (.loop c::fs) env s ((M4 m++os).reverseAux []) rs keep ks own=some (res,H1,ob.reverseAux [])) (hn:nst≤ks.length):Dl P na c env s (uH P na (Y8 P na fn res H1 nst) fs):=
 Dl.toFin hp hm 3000 _ rs keep ks own h (yJ.rev _ _ k.ok trivial) hn
end
section
variable {P:Program} {os:List fH} {ob:List Ob}
theorem aH(n:Nat)(k:OL P os ob):OL P (.cl::(M4 n++os)) ob:=⟨k.ok⟩
theorem oCk{f:FuncId}{H0:List yO}{args:List AV}{res:AV}{H1:List yO}{nst:Nat}(n:Nat)(ι:List Nat)(kp:List (Nat×Nat))(h:CT P f H0 args res H1 nst)(hk:zHu H0 H1 kp)(k:OL P os ob):OL P (.callk kp ι H1 nst res::(M4 n++os)) (.call f H0 args res H1 nst :: .kp H0 H1 kp::ob):=⟨⟨h,hk,k.ok⟩⟩
end
end Go.Ab
set_option linter.unusedSimpArgs false
namespace Go.Ab
open Go Go.RowKit
theorem xO{P:Program}{α:Type}{C L:α->List AV}(he:∀t,C t=L t)(l:List α):Ob.ok P (.cells (zG L l) (zG C l) l.length l.length):=⟨by rw[show L=C from funext fun t=>(he t).symm],rfl⟩
structure zR where
 n_:Int
 type_:Tm
instance:Inhabited zR:=⟨⟨default,default⟩⟩
def zI(x:zR):List AV:=[ai x.n_,ai x.type_.k,ai x.type_.n,zV zD x.type_.sub .no]
def zNT(x:zR):AV:=.agg (zI x)
theorem wL:uC zI 4:=⟨fun _=>rfl,fun _=>⟨trivial,trivial,trivial,⟨trivial,dT _⟩,trivial⟩,fun _=>rfl⟩
theorem zF(l:List zR):AV.DataL (zG zI l):=tW wL.data l
structure uO where
 c_:List zR
 a_:List Tm
 b_:List Tm
 fuel_:Int
instance:Inhabited uO:=⟨⟨default,default,default,default⟩⟩
def jJ(x:uO):List AV:=[zV zI x.c_ .no,zV zD x.a_ .no,zV zD x.b_ .no,ai x.fuel_]
def z8(x:uO):AV:=.agg (jJ x)
structure zS where
 n_:Int
 t_:Tm
instance:Inhabited zS:=⟨⟨default,default⟩⟩
def zQ(x:zS):List AV:=[ai x.n_,ai x.t_.k,ai x.t_.n,zV zD x.t_.sub .no]
theorem vZ:uC zQ 4:=⟨fun _=>rfl,fun _=>⟨trivial,trivial,trivial,⟨trivial,dT _⟩,trivial⟩,fun _=>rfl⟩
theorem zK(l:List zS):AV.DataL (zG zQ l):=tW vZ.data l
structure yR where
 yes_:Bool
 vars_:List zR
 solved_:List zS
 steps_:List Int
instance:Inhabited yR:=⟨⟨default,default,default,default⟩⟩
def zCd(x:yR):List AV:=[ab x.yes_,zV zI x.vars_ .no,zV zQ x.solved_ .no,zV yC x.steps_ .no]
def vJ(x:yR):AV:=.agg (zCd x)
structure vT where
 n_:Int
 type_:Tm
instance:Inhabited vT:=⟨⟨default,default⟩⟩
def vK(x:vT):List AV:=[ai x.n_,ai x.type_.k,ai x.type_.n,zV zD x.type_.sub .no]
theorem eF:uC vK 4:=⟨fun _=>rfl,fun _=>⟨trivial,trivial,trivial,⟨trivial,dT _⟩,trivial⟩,fun _=>rfl⟩
theorem vU(l:List vT):AV.DataL (zG vK l):=tW eF.data l
structure zEC where
 con_:Int
 yes_:Bool
 args_:List Int
 vars_:List zR
 solved_:List zS
instance:Inhabited zEC:=⟨⟨default,default,default,default,default⟩⟩
structure zLg where
 l_:List yI
 parts_:List sW
instance:Inhabited zLg:=⟨⟨default,default⟩⟩
structure zM where
 a_:Tm
 b_:Tm
instance:Inhabited zM:=⟨⟨default,default⟩⟩
def zP(x:zM):List AV:=[ai x.a_.k,ai x.a_.n,zV zD x.a_.sub .no,ai x.b_.k,ai x.b_.n,zV zD x.b_.sub .no]
def sK(x:zM):AV:=.agg (zP x)
theorem uA:uC zP 6:=⟨fun _=>rfl,fun _=>⟨trivial,trivial,⟨trivial,dT _⟩,trivial,trivial,⟨trivial,dT _⟩,trivial⟩,fun _=>rfl⟩
theorem zL(l:List zM):AV.DataL (zG zP l):=tW uA.data l
structure zLf where
 e_:Int
instance:Inhabited zLf:=⟨⟨default⟩⟩
end Go.Ab
namespace Go.Proofs.YtfbkefchjcocmaaGreat
open Go Go.Ab Go.Proofs.Tryz
theorem w5(b:Bool):b=true∨b=false:=by cases b<;>simp
theorem zB{α:Type}{p:α->Prop}:∀x∈([]:List α),p x:=fun _ h=>nomatch h
theorem zA{α:Type}{p:α->Prop}{a:α}{l:List α}(h:p a)(k:∀x∈l,p x):∀x∈a::l,p x:=by
 intro x hx
 rcases List.mem_cons.1 hx with rfl|hx
 ·exact h
 ·exact k x hx
theorem o0:OL prog [] []:=OL.nil
abbrev mB (M:wA) (i:Nat):yO:=.cells [zV xJ M.l .no,.mp i 0,zV yC M.args .no,zV yC M.own .no]
abbrev mR (M:wA):yO:=.cells [zV xJ M.rl .no,zV pT M.parts .no]
theorem tv:True:=trivial
theorem lz{a b:Nat}(h:Nat.ble (a+1) b=true):a<b:=Nat.le_of_ble_eq_true h
abbrev Ct:=CT prog
abbrev Ci:=tU prog
abbrev Cf:=FuncId->List yO->List AV->AV->List yO->Nat->Prop
abbrev Qf (f:FuncId) (fn:Func):Prop:=prog.funcs[f]? = some fn∧fn.body.isNone=false
section
variable {f:FuncId} {fn:Func} {H0 H1:List yO} {args:List AV} {res:AV} {nst:Nat} {os:List fH} {ob:List Ob}
theorem tF(q:Qf f fn)(m:Nat)(keep:List Nat)(k:OL prog os ob)(h:aB prog qX H0.length fn 3000 (.run (rV fn)) [] (args++List.replicate (fn.ntmps-args.length) (.val undef)) (S1 H0) ((M4 m++os).reverseAux []) [] keep [] false=some (res,H1,ob.reverseAux []):=by kernel_rfl):tU prog f H0 args res H1 0:=OL.toFin wN mixed q m [] keep [] false k h (Nat.le_refl _)
theorem tG(q:Qf f fn)(m:Nat)(rs:List (Option Nat×Nat×Nat))(keep ks:List Nat)(own:Bool)(k:OL prog os ob)(h:aB prog qX H0.length fn 3000 (.run (rV fn)) [] (args++List.replicate (fn.ntmps-args.length) (.val undef)) (S1 H0) ((M4 m++os).reverseAux []) rs keep ks own=some (res,H1,ob.reverseAux []):=by kernel_rfl)(hn:nst≤ks.length:=by decide):tU prog f H0 args res H1 nst:=OL.toFin wN mixed q m rs keep ks own k h hn
theorem tH(q:Qf f fn)(m:Nat)(rs:List (Option Nat×Nat×Nat))(keep ks live:List Nat)(k:OL prog os ob){c:Code}{fs':List Fr}{E:(Nat->Value)->List AV}{S:xA}(hk:∀j,Dl prog H0.length c (E j) S (uH prog H0.length (Y8 prog H0.length fn res H1 nst) fs'))(h:∀j,eC prog qX H0.length 3000 (.run (rV fn)) [] (args++List.replicate (fn.ntmps-args.length) (.val undef)) (S1 H0) ((M4 m++os).reverseAux []) rs keep ks live j=some (c,fs',E j,S,ob.reverseAux []):=by intro j;kernel_rfl):tU prog f H0 args res H1 nst:=OL.toHead wN mixed q m rs keep ks live k hk h
variable {na:Nb} {Q:AX->List AV->xA->Prop} {c c':Code} {fs fs':List Fr} {env:List AV} {s S:xA}
theorem lH(m:Nat)(rs:List (Option Nat×Nat×Nat))(keep ks live:List Nat)(k:OL prog os ob){E:(Nat->Value)->List AV}(hk:∀j,Dl prog na c' (E j) S (uH prog na Q fs'))(h:∀j,eC prog qX na.n 3000 (.run c) (.loop c::fs) env s ((M4 m++os).reverseAux []) rs keep ks live j=some (c',fs',E j,S,ob.reverseAux []):=by intro j;kernel_rfl):Dl prog na c env s (uH prog na Q fs):=OL.lHead wN mixed m rs keep ks live k hk h
theorem lF(m:Nat)(keep:List Nat)(k:OL prog os ob)(h:aB prog qX na.n fn 3000 (.run c) (.loop c::fs) env s ((M4 m++os).reverseAux []) [] keep [] false=some (res,H1,ob.reverseAux []):=by kernel_rfl):Dl prog na c env s (uH prog na (Y8 prog na fn res H1 0) fs):=OL.lFin wN mixed m [] keep [] false k h (Nat.le_refl _)
theorem lG(m:Nat)(rs:List (Option Nat×Nat×Nat))(keep ks:List Nat)(own:Bool)(k:OL prog os ob)(h:aB prog qX na.n fn 3000 (.run c) (.loop c::fs) env s ((M4 m++os).reverseAux []) rs keep ks own=some (res,H1,ob.reverseAux []):=by kernel_rfl)(hn:nst≤ks.length:=by decide):Dl prog na c env s (uH prog na (Y8 prog na fn res H1 nst) fs):=OL.lFin wN mixed m rs keep ks own k h hn
end
theorem iO:prog.info? 39=some Tryz.t39:=by kernel_rfl
theorem nR:prog.info? 77=some Tryz.t77:=by kernel_rfl
theorem zVs{l m' m r:List zR}{n k o n2:Nat}(hp:bH m' o n2=some m)(h:zLi k n l m=some r):Ob.ok prog (.inp (zHw prog 23 23 4 (zG zI l) n k (some 4) (bF (zG zI m') (o*4) n2 4) n2) (zG zI r)):=zNO wL Tryz.underlying23 nR rfl hp h
theorem qE{l m r:List Tm}(h:xF 40 l m=some r)(hm:m.length=0):Ob.ok prog (.app 24 24 (zG zD l) (zG zD m) (zG zD r) l.length m.length r.length 3 true):=zAZ oH Tryz.underlying24 iO rfl rfl rfl (by decide) rfl (by decide) h hm
theorem zHe:prog.info? 41=some Tryz.t41:=by kernel_rfl
theorem zBu:prog.info? 3=some Tryz.t3:=by kernel_rfl
theorem zNU{l m r:List Int}(h:xF 8 l m=some r)(hm:m.length=0):Ob.ok prog (.app 30 30 (zG yC l) (zG yC m) (zG yC r) l.length m.length r.length 1 true):=zAZ aC Tryz.underlying30 zBu rfl rfl rfl (by decide) rfl (by decide) h hm
theorem dY:prog.info? 158=some Tryz.t158:=by kernel_rfl
theorem zVr{n:Nat}(h:n=0):Ob.ok prog (.same 122 122 n):=zCe Tryz.underlying122 dY h
theorem zXU{n:Nat}(h:n=0):Ob.ok prog (.same 23 23 n):=zCe Tryz.underlying23 nR h
theorem zXV{n:Nat}(h:n=0):Ob.ok prog (.same 24 24 n):=zCe Tryz.underlying24 iO h
theorem zNV{l m r:List zM}(h:xF 80 l m=some r)(hm:m.length≠0):Ob.ok prog (.mk (cQ prog 122 122 (some 6) (zG zP l) l.length none (zG zP m) m.length) (zG zP r) r.length):=D9 uA Tryz.underlying122 dY rfl rfl rfl (by decide) rfl (by decide) h hm
theorem zXW{l m r:List zR}(h:xF 48 l m=some r)(hm:m.length≠0):Ob.ok prog (.mk (cQ prog 23 23 (some 4) (zG zI l) l.length none (zG zI m) m.length) (zG zI r) r.length):=D9 wL Tryz.underlying23 nR rfl rfl rfl (by decide) rfl (by decide) h hm
theorem zUq{l m r:List Int}(h:xF 8 l m=some r)(hm:m.length≠0):Ob.ok prog (.mk (cQ prog 30 30 (some 1) (zG yC l) l.length none (zG yC m) m.length) (zG yC r) r.length):=D9 aC Tryz.underlying30 zBu rfl rfl rfl (by decide) rfl (by decide) h hm
theorem zRR{l m' m r:List zM}{o n j:Nat}(hp:bH m' o n=some m)(h:xF 80 l m=some r)(hm:m.length≠0):Ob.ok prog (.mk (cQ prog 122 122 (some 6) (zG zP l) l.length (some (j,j,6)) (bF (zG zP m') (o*6) n 6) n) (zG zP r) r.length):=zNN uA Tryz.underlying122 dY rfl rfl rfl (by decide) rfl (by decide) hp h hm
theorem zVq{l l' m r:List zS}{n:Nat}(hf:gfz n l=some l')(h:xF 48 l' m=some r)(hm:m.length≠0):Ob.ok prog (.mk (cQ prog 29 29 (some 4) (zG zQ l) n none (zG zQ m) m.length) (zG zQ r) r.length):=zLj vZ Tryz.underlying29 zHe rfl rfl rfl (by decide) rfl (by decide) hf h hm
theorem zUp:prog.info? 9=some Tryz.t9:=by kernel_rfl
theorem zVp{l m r:List ByteArray}(h:xF 16 l m=some r)(hm:m.length≠0):Ob.ok prog (.app 177 177 (zG N2 l) (zG N2 m) (zG N2 r) l.length m.length r.length 1 false):=nF zHo Tryz.underlying177 zUp rfl rfl rfl (by decide) rfl (by decide) h hm
theorem zJq:prog.info? 216=some Tryz.t216:=by kernel_rfl
theorem zVo{l m r:List sV}(h:xF 56 l m=some r)(hm:m.length≠0):Ob.ok prog (.app 180 180 (zG D1 l) (zG D1 m) (zG D1 r) l.length m.length r.length 3 false):=nF zHm Tryz.underlying180 zJq rfl rfl rfl (by decide) rfl (by decide) h hm
theorem zNW:prog.info? 81=some Tryz.t81:=by kernel_rfl
theorem zXX{l m r:List yI}(h:xF 192 l m=some r)(hm:m.length≠0):Ob.ok prog (.app 22 22 (zG xJ l) (zG xJ m) (zG xJ r) l.length m.length r.length 15 false):=nF zHn Tryz.underlying22 zNW rfl rfl rfl (by decide) rfl (by decide) h hm
theorem zUo{l m r:List zR}(h:xF 48 l m=some r)(hm:m.length≠0):Ob.ok prog (.app 23 23 (zG zI l) (zG zI m) (zG zI r) l.length m.length r.length 4 false):=nF wL Tryz.underlying23 nR rfl rfl rfl (by decide) rfl (by decide) h hm
theorem vE{l m r:List Tm}(h:xF 40 l m=some r)(hm:m.length≠0):Ob.ok prog (.app 24 24 (zG zD l) (zG zD m) (zG zD r) l.length m.length r.length 3 false):=nF oH Tryz.underlying24 iO rfl rfl rfl (by decide) rfl (by decide) h hm
theorem qF{l m r:List Int}(h:xF 8 l m=some r)(hm:m.length≠0):Ob.ok prog (.app 30 30 (zG yC l) (zG yC m) (zG yC r) l.length m.length r.length 1 false):=nF aC Tryz.underlying30 zBu rfl rfl rfl (by decide) rfl (by decide) h hm
theorem zNX:prog.info? 43=some Tryz.t43:=by kernel_rfl
theorem zXY{l m r:List vT}(h:xF 48 l m=some r)(hm:m.length≠0):Ob.ok prog (.app 36 36 (zG vK l) (zG vK m) (zG vK r) l.length m.length r.length 4 false):=nF eF Tryz.underlying36 zNX rfl rfl rfl (by decide) rfl (by decide) h hm
theorem zXZ{m r:List zR}(h:xF 48 ([]:List zR) m=some r)(hm:m.length≠0):Ob.ok prog (.mk (cQ prog 23 23 (none) [] 0 none (zG zI m) m.length) (zG zI r) r.length):=zEA wL Tryz.underlying23 nR rfl rfl rfl (by decide) rfl (by decide) h hm
theorem zYz{m r:List Tm}(h:xF 40 ([]:List Tm) m=some r)(hm:m.length≠0):Ob.ok prog (.mk (cQ prog 24 24 (none) [] 0 none (zG zD m) m.length) (zG zD r) r.length):=zEA oH Tryz.underlying24 iO rfl rfl rfl (by decide) rfl (by decide) h hm
theorem zYy{l:List zR}{o:Nat}{u:Unit}(h:gle l.length o=some u):Ob.ok prog (.clr 23 (zG zI l).length (o*4) 4):=yAS wL Tryz.underlying23 nR rfl rfl (by rfl) h
theorem zCc:prog.info? 182=some Tryz.t182:=by kernel_rfl
theorem zYx{l:List sW}{i:Int}{o:qT}{x:sW}(h:zW l i=some x):xQ prog 141 (.sl (zG pT l) l.length o) (ai i)=some (.ip (pT x++zG pT (l.drop (i.toNat+1)))):=by
 have:=D3 zHl (k:=.i64) Tryz.underlying141 zCc rfl h (o:=o)
 exact this
theorem zYw{l:List ByteArray}{i:Int}{o:qT}{x:ByteArray}(h:zW l i=some x):xQ prog 177 (.sl (zG N2 l) l.length o) (ai i)=some (.ip (N2 x++zG N2 (l.drop (i.toNat+1)))):=by
 have:=D3 zHo (k:=.i64) Tryz.underlying177 zUp rfl h (o:=o)
 exact this
theorem zYv{l:List sV}{i:Int}{o:qT}{x:sV}(h:zW l i=some x):xQ prog 180 (.sl (zG D1 l) l.length o) (ai i)=some (.ip (D1 x++zG D1 (l.drop (i.toNat+1)))):=by
 have:=D3 zHm (k:=.i64) Tryz.underlying180 zJq rfl h (o:=o)
 exact this
theorem wI{l:List yI}{i:Int}{o:qT}{x:yI}(h:zW l i=some x):xQ prog 22 (.sl (zG xJ l) l.length o) (ai i)=some (.ip (xJ x++zG xJ (l.drop (i.toNat+1)))):=by
 have:=D3 zHn (k:=.i64) Tryz.underlying22 zNW rfl h (o:=o)
 exact this
theorem zCb{l:List zR}{i:Int}{o:qT}{x:zR}(h:zW l i=some x):xQ prog 23 (.sl (zG zI l) l.length o) (ai i)=some (.ip (zI x++zG zI (l.drop (i.toNat+1)))):=by
 have:=D3 wL (k:=.i64) Tryz.underlying23 nR rfl h (o:=o)
 exact this
theorem xH{l:List Tm}{i:Int}{o:qT}{x:Tm}(h:zW l i=some x):xQ prog 24 (.sl (zG zD l) l.length o) (ai i)=some (.ip (cS x++zG zD (l.drop (i.toNat+1)))):=by
 have:=D3 oH (k:=.i64) Tryz.underlying24 iO rfl h (o:=o)
 rw[xW]at this
 exact this
theorem zRS{l:List zS}{i:Int}{o:qT}{x:zS}(h:zW l i=some x):xQ prog 29 (.sl (zG zQ l) l.length o) (ai i)=some (.ip (zQ x++zG zQ (l.drop (i.toNat+1)))):=by
 have:=D3 vZ (k:=.i64) Tryz.underlying29 zHe rfl h (o:=o)
 exact this
theorem nI{l:List Int}{i:Int}{o:qT}{x:Int}(h:zW l i=some x):xQ prog 30 (.sl (zG yC l) l.length o) (ai i)=some (.ip (yC x++zG yC (l.drop (i.toNat+1)))):=by
 have:=D3 aC (k:=.i64) Tryz.underlying30 zBu rfl h (o:=o)
 exact this
theorem zED{l:List vT}{i:Int}{o:qT}{x:vT}(h:zW l i=some x):xQ prog 36 (.sl (zG vK l) l.length o) (ai i)=some (.ip (vK x++zG vK (l.drop (i.toNat+1)))):=by
 have:=D3 eF (k:=.i64) Tryz.underlying36 zNX rfl h (o:=o)
 exact this
theorem zEE{l:List Int}{i x:Int}(h:zW l i=some x)(hl:l.length=9):iA prog 203 (.agg (zG yC l)) (ai i)=some (ai x):=zNF (k:=.i64) Tryz.underlying203 (q:=(false,1)) (by kernel_rfl) rfl hl h
theorem zVn{b n k c z:Nat}{i:Int}(h:iM n i=some k):xQ prog 141 (.ms b 0 n c z) (ai i)=some (.mp b (k*3)):=zHg Tryz.underlying141 zCc rfl h
theorem zJp{b n k c z:Nat}{i:Int}(h:iM n i=some k):xQ prog 23 (.ms b 0 n c z) (ai i)=some (.mp b (k*4)):=zHg Tryz.underlying23 nR rfl h
theorem zJo{b n k c z:Nat}{i:Int}(h:iM n i=some k):xQ prog 29 (.ms b 0 n c z) (ai i)=some (.mp b (k*4)):=zHg Tryz.underlying29 zHe rfl h
theorem zHd{b o n k c z:Nat}{i:Int}(h:iM n i=some k):xQ prog 122 (.ms b (o*6) n c z) (ai i)=some (.mp b ((o+k)*6)):=zRN Tryz.underlying122 dY rfl h
theorem zNY{s:ByteArray}{i x:Int}(h:Z6 s i=some x):iA prog 9 (at' s) (ai i)=some (.val (.int .u8 x)):=zNK Tryz.underlying9 h
theorem zUn(m:List (ByteArray×Int))(k:ByteArray):Ob.ok prog (.lk 210 (zCg m) (at' k) false (ai (zEg m k))):=zXO Tryz.underlying210 Tryz.underlying9 zBu rfl m k
theorem zNZ(m:List (Int×Int))(k:Int):Ob.ok prog (.lk 195 (aG m) (ai k) true (.tup [ai (zHf m k),ab (N8 m k)])):=zVv Tryz.underlying195 Tryz.underlying3 zBu rfl m k
theorem zOz(m:List (Int×Int)):Ob.ok prog (.ln 195 (aG m) (ai (m.length:Int))):=zVt Tryz.underlying195 m
theorem zOy{n:Int}{l:List sW}(h:gmk 72 (default:sW) n=some l):Ob.ok prog (.mk (iF prog 141 (ai n) (ai n)) (zG pT l) l.length):=zXS Tryz.underlying141 zCc rfl rfl rfl (by decide) rfl (by decide) (by rfl) h
theorem zYu(m:List (ByteArray×Int))(k:ByteArray)(v:Int):Ob.ok prog (.mu 210 (zCg m) (at' k) (ai v) (zCg (Z5 m k v))):=zXP Tryz.underlying210 Tryz.underlying9 m k v
theorem zVm(m:List (Int×Int))(k v:Int):Ob.ok prog (.mu 195 (aG m) (ai k) (ai v) (aG (cT m k v))):=zVu Tryz.underlying195 Tryz.underlying3 m k v
theorem qZ{l r:List Tm}{a:Int}(h:fK l a l.length=some r):vH prog 24 (.sl (zG zD l) l.length .no) (some (ai a)) none none=some (.sl (zG zD r) r.length .no):=zCk oH Tryz.underlying24 iO rfl h
theorem zYt{b o n c:Nat}{x y:Int}{r:Nat×Nat}(h:kT c x y=some r):vH prog 23 (.ms b (o*4) n c 4) (some (ai x)) (some (ai y)) none=some (.ms b ((o+r.1)*4) r.2 (c-r.1) 4):=zVy Tryz.underlying23 nR rfl (by decide) h
theorem zRT{b o n c:Nat}{x y:Int}{r:Nat×Nat}(h:kT n x y=some r):vH prog 23 (.ms b (o*4) n c 4) (some (ai x)) (some (ai y)) (some (ai (n:Int)))=some (.ms b ((o+r.1)*4) r.2 (n-r.1) 4):=zRO Tryz.underlying23 nR rfl (by decide) h
theorem zLe(b off n c:Nat):vH prog 122 (.ms b off n c 6) none (some (ai (n:Int))) (some (ai (n:Int)))=some (.ms b off n n 6):=zLl Tryz.underlying122 dY rfl (by decide) b off n c
theorem zHc{b o n c:Nat}{x:Int}{r:Nat×Nat}(h:kT n x n=some r):vH prog 122 (.ms b (o*6) n c 6) (some (ai x)) none none=some (.ms b ((o+r.1)*6) r.2 (c-r.1) 6):=Z8 Tryz.underlying122 dY rfl (by decide) h
theorem zLd{b o n c:Nat}{x:Int}{r:Nat×Nat}(h:kT n x n=some r):vH prog 23 (.ms b (o*4) n c 4) (some (ai x)) none none=some (.ms b ((o+r.1)*4) r.2 (c-r.1) 4):=Z8 Tryz.underlying23 nR rfl (by decide) h
theorem zRU{b off n c:Nat}{y:Int}{r:Nat×Nat}(h:kT c 0 y=some r):vH prog 23 (.ms b off n c 4) none (some (ai y)) none=some (.ms b off r.2 c 4):=zNM Tryz.underlying23 nR rfl (by decide) h
theorem mW{l r:List Tm}{b:Int}(h:fK l 0 b=some r):vH prog 24 (.sl (zG zD l) l.length .no) none (some (ai b)) none=some (.sl (zG zD r) r.length .no):=zHk oH Tryz.underlying24 iO rfl h
theorem zJn{l r:List Tm}{b:Int}{o:qT}(h:fK l 0 b=some r):∃a0,vH prog 24 (.sl (zG zD l) l.length o) none (some (ai b)) none=some a0∧a0.frz = .sl (zG zD r) r.length .no:=zEl oH Tryz.underlying24 iO rfl h
def ptG:Nat->Nat->Func->Code
 |0,_,f=>rV f
 |k+1,n,f=>if n=0 then rV f else if n % 4=1 then inn (ptG k (n / 4) f)else if n % 4=2 then nU (ptG k (n / 4) f)else sS (ptG k (n / 4) f)
abbrev pt:=ptG 99
abbrev Oz:=OL prog
abbrev dL:=Dl prog
abbrev fQ:=uH prog
abbrev nQ:=Y8 prog
abbrev qB (q0:List yI) (m:Nat) (q3 q4:List Int):yO:=.cells [zV xJ q0 .no,.mp m 0,zV yC q3 .no,zV yC q4 .no]
abbrev qR (q1:List yI) (q2:List sW):yO:=.cells [zV xJ q1 .no,zV pT q2 .no]
theorem cU{os:List fH}{ob:List Ob}(q0 q1:List yI)(q2:List sW)(q3 q4:List Int)(k:Oz os ob):Oz os (.data (zG pT q2) :: .data (zG xJ q1) :: .data (zG yC q4) :: .data (zG yC q3) :: .data (zG xJ q0)::ob):=oD (dC q2)<|oD (dE q1)<|oD (dI q4)<|oD (dI q3)<|oD (dE q0) k
theorem sP{os:List fH}{ob:List Ob}(M:wA)(k:Oz os ob):Oz os (.data (zG pT M.parts) :: .data (zG xJ M.rl) :: .data (zG yC M.own) :: .data (zG yC M.args) :: .data (zG xJ M.l)::ob):=cU M.l M.rl M.parts M.args M.own k
theorem nW{n m:Nat}{q0 q1:List yI}{q2:List sW}{q3 q4:List Int}{l:List yO}(h:m<n)(k:∀X∈l,X.arg (fun i=>i<n)):∀X∈qB q0 m q3 q4::qR q1 q2::l,X.arg (fun i=>i<n):=zA ⟨⟨tv,dE _⟩,h,⟨tv,dI _⟩,⟨tv,dI _⟩,tv⟩ (zA ⟨⟨tv,dE _⟩,⟨tv,dC _⟩,tv⟩ k)
theorem pW{n m:Nat}{q0 q1:List yI}{q2:List sW}{q3 q4:List Int}{l:List yO}(h:m<n)(k:∀X∈l,X.fine (fun i=>i<n)):∀X∈qB q0 m q3 q4::qR q1 q2::l,X.fine (fun i=>i<n):=zA ⟨dE _,h,dI _,dI _,tv⟩ (zA ⟨dE _,dC _,tv⟩ k)
abbrev yM:=List Tm
abbrev zZ:=List Int
abbrev xR:=List zR
abbrev yV:=List yI
abbrev sE:=List zS
abbrev uM:=List sW
abbrev qA:=List zM
abbrev LR2:=List vT
end Go.Proofs.YtfbkefchjcocmaaGreat
namespace Go.Ab
open Go
def zJ{α:Type}(f:Nat->Option α)(r:α):Prop:=∃n,∀q,n≤q->f q=some r
section
variable {α β:Type} {f:Nat->Option α} {r a:α} {b:β}
theorem zJ.mk(h:∀q,f q=some r):zJ f r:=⟨0,fun q _=>h q⟩
theorem zJ.ret{r:α}:zJ (fun _=>some r) r:=⟨0,fun _ _=>rfl⟩
theorem zJ.succ(h:zJ (fun q=>f (q+1)) r):zJ f r:=by
 obtain⟨n,h⟩:=h
 refine⟨n+1,fun q hq=>?_⟩
 obtain⟨k,rfl⟩:∃k,q=k+1:=⟨q-1,by omega⟩
 exact h k (by omega)
theorem zJ.bind{k:Nat->α->Option β}(h:zJ f a)(g:zJ (fun q=>k q a) b):zJ (fun q=>f q>>=k q) b:=by
 obtain⟨n,h⟩:=h;obtain⟨m,g⟩:=g
 refine⟨max n m,fun q hq=>?_⟩
 dsimp only
 rw[h q (by omega)]
 exact g q (by omega)
theorem zJ.pure{x:Option α}{k:Nat->α->Option β}(h:x=some a)(g:zJ (fun q=>k q a) b):zJ (fun q=>x>>=k q) b:=by
 subst h;exact g
theorem zJ.ifT{c:Bool}{g:Nat->Option α}(h:c=true)(k:zJ f r):zJ (fun q=>if c=true then f q else g q) r:=by
 simpa[h]using k
theorem zJ.ifF{c:Bool}{g:Nat->Option α}(h:c=false)(k:zJ g r):zJ (fun q=>if c=true then f q else g q) r:=by
 simpa[h]using k
theorem zJ.iff{c:Bool}{g:Nat->Option α}(h:c=true->zJ f r)(k:c=false->zJ g r):zJ (fun q=>if c=true then f q else g q) r:=by
 cases c
 ·simpa using k rfl
 ·simpa using h rfl
theorem zJ.det(h:zJ f r)(k:zJ f a):r=a:=by
 obtain⟨n,h⟩:=h;obtain⟨m,k⟩:=k
 have:=h (max n m) (by omega)
 rw[k _ (by omega)]at this
 exact(Option.some.inj this).symm
theorem zJ.at(h:zJ f r):∃q,f q=some r:=by obtain⟨n,h⟩:=h;exact⟨n,h n (Nat.le_refl _)⟩
theorem zJ.eq{s:α}(h:zJ f r)(e:r=s):zJ f s:=e▸h
end
def zN{α:Type}(f:Nat->Option α)(P:α->Prop):Prop:=∃r,zJ f r∧P r
section
variable {α β:Type} {f:Nat->Option α} {P:α->Prop} {Q:β->Prop}
theorem zJ.tot{r:α}(h:zJ f r)(k:P r):zN f P:=⟨r,h,k⟩
theorem zN.ret{r:α}(k:P r):zN (fun _=>some r) P:=⟨r,zJ.ret,k⟩
theorem zN.succ(h:zN (fun q=>f (q+1)) P):zN f P:=by obtain⟨r,h,k⟩:=h;exact⟨r,h.succ,k⟩
theorem zN.bind{k:Nat->α->Option β}(h:zN f P)(g:∀a,P a->zN (fun q=>k q a) Q):zN (fun q=>f q>>=k q) Q:=by
 obtain⟨a,h,p⟩:=h;obtain⟨b,h2,k⟩:=g a p
 exact⟨b,h.bind h2,k⟩
theorem zN.pure{x:Option α}{a:α}{k:Nat->α->Option β}(h:x=some a)(g:zN (fun q=>k q a) Q):zN (fun q=>x>>=k q) Q:=by
 subst h;exact g
theorem zN.ite{c:Bool}{g:Nat->Option α}(h:c=true->zN f P)(k:c=false->zN g P):zN (fun q=>if c=true then f q else g q) P:=by
 cases c
 ·simpa using k rfl
 ·simpa using h rfl
theorem zN.mono{P':α->Prop}(h:zN f P)(k:∀r,P r->P' r):zN f P':=by obtain⟨r,h,p⟩:=h;exact⟨r,h,k r p⟩
end
theorem yW{x:Int}(h0:-9223372036854775808≤x)(h1:x≤9223372036854775807):xL x=x:=by
 show IntKind.i64.wrap x=x
 exact IntWalk.i64_in x ⟨h0,h1⟩
theorem yA(v:Nat)(h:v<9223372036854775807):xL ((v:Int)+1)=((v+1:Nat):Int):=by
 rw[yW (by omega) (by omega)];simp
section
variable {α:Type} {l:List α} {v:Nat} {x:α} {r:List α}
theorem yL(h:l.drop v=x::r):v<l.length:=by
 rcases Nat.lt_or_ge v l.length with h1|h1
 ·exact h1
 ·rw[List.drop_eq_nil_of_le h1]at h;cases h
theorem yG(h:l.drop v=x::r):decide ((v:Int)<(l.length:Int))=true:=by
 have:=yL h;simp;exact this
theorem yH(h:l.drop v=[]):decide ((v:Int)<(l.length:Int))=false:=by
 have:l.length≤v:=List.drop_eq_nil_iff.1 h
 simp;exact this
theorem yD(h:l.drop v=x::r):zW l (v:Int)=some x:=by
 have h1:=yL h
 have:l[v]? = some x:=by
  have:=congrArg (fun z=>z[0]?) h
  simpa using this
 unfold zW
 rw[if_pos (by omega)];simpa using this
theorem zY(h:l.drop v=x::r):l.drop (v+1)=r:=by
 have:=congrArg List.tail h
 simpa using this
end
theorem yK{α:Type}{B:Nat}{l m:List α}(h:(l.length+m.length)*B≤140737488355328):xF B l m=some (l++m):=by unfold xF;rw[if_pos h]
mutual
def Tm.nodes:Tm->Nat
 | .mk _ _ l=>1+yP l
def yP:List Tm->Nat
 | []=>0
 |t::l=>t.nodes+yP l
end
mutual
def Tm.high:Tm->Nat
 | .mk _ _ l=>1+vQ l
def vQ:List Tm->Nat
 | []=>0
 |t::l=>max t.high (vQ l)
end
mutual
def Tm.Ok:Tm->Prop
 | .mk _ _ l=>l.length<9223372036854775808∧mX l
def mX:List Tm->Prop
 | []=>True
 |t::l=>t.Ok∧mX l
end
mutual
def szT:Tm->Int->Int
 | .mk _ _ l,h=>szL l (h+1)
def szL:List Tm->Int->Int
 | [],h=>h
 |t::l,h=>if h>8192 then h else szL l (szT t h)
end
mutual
theorem zEF:∀(t:Tm) (h:Int),0≤h->h≤8192->h+1≤szT t h∧szT t h≤8193
 | .mk _ _ l,h,h0,h1=>by
  rw[szT]
  exact zUm l (h+1) (by omega) (by omega)
theorem zUm:∀(l:List Tm) (h:Int),0≤h->h≤8193->h≤szL l h∧szL l h≤8193
 | [],h,h0,h1=>by rw[szL];omega
 |t::l,h,h0,h1=>by
  rw[szL]
  split
  ·omega
  ·have:=zEF t h h0 (by omega)
   have:=zUm l (szT t h) (by omega) (by omega)
   omega
end
theorem vM(t:Tm):1≤t.nodes:=by cases t;rw[Tm.nodes];omega
mutual
theorem zOx:∀(t:Tm) (h:Int),0≤h->h≤8192->(h+t.nodes≤8192->szT t h=h+t.nodes)∧(8192<h+t.nodes->szT t h=8193)
 | .mk _ _ l,h,h0,h1=>by
  rw[szT,Tm.nodes]
  have:=zOw l (h+1) (by omega) (by omega)
  constructor
  ·intro h2;rw[this.1 (by omega)];omega
  ·intro h2;exact this.2 (by omega)
theorem zOw:∀(l:List Tm) (h:Int),0≤h->h≤8193->(h+yP l≤8192->szL l h=h+yP l)∧(8192<h+yP l->szL l h=8193)
 | [],h,h0,h1=>by rw[szL,yP];omega
 |t::l,h,h0,h1=>by
  rw[szL,yP]
  have hp:=vM t
  split
  ·omega
  ·have ht:=zOx t h h0 (by omega)
   have hb:=zEF t h h0 (by omega)
   have hl:=zOw l (szT t h) (by omega) (by omega)
   constructor
   ·intro h2
    have e:=ht.1 (by omega)
    rw[e]at hl ⊢
    rw[hl.1 (by omega)];omega
   ·intro h2
    by_cases h3:h+t.nodes≤8192
    ·have e:=ht.1 h3
     rw[e]at hl ⊢
     exact hl.2 (by omega)
    ·exact hl.2 (by rw[ht.2 (by omega)];omega)
end
mutual
def dpT:Tm->Int->Int
 | .mk _ _ l,a=>if a>128 then a else dpL l a a
def dpL:List Tm->Int->Int->Int
 | [],_,m=>m
 |t::l,a,m=>dpL l a (iG m (dpT t (a+1)))
end
mutual
theorem zUl:∀(t:Tm) (a:Int),0≤a->a≤129->a≤dpT t a∧dpT t a≤129
 | .mk _ _ l,a,h0,h1=>by
  rw[dpT]
  split
  ·omega
  ·exact zUk l a a h0 (by omega) (by omega) (by omega)
theorem zUk:∀(l:List Tm) (a m:Int),0≤a->a≤128->a≤m->m≤129->m≤dpL l a m∧dpL l a m≤129
 | [],a,m,h0,h1,h2,h3=>by rw[dpL];omega
 |t::l,a,m,h0,h1,h2,h3=>by
  rw[dpL]
  have:=zUl t (a+1) (by omega) (by omega)
  have:=zUk l a (iG m (dpT t (a+1))) h0 h1 (by unfold iG;split<;>omega) (by unfold iG;split<;>omega)
  unfold iG at this ⊢
  split at this<;>split<;>omega
end
mutual
theorem zOv:∀(t:Tm) (a:Int),0≤a->a≤129->(a+t.high≤129->dpT t a=a+t.high-1)∧(129<a+t.high->dpT t a=129)
 | .mk _ _ l,a,h0,h1=>by
  rw[dpT,Tm.high]
  split
  ·omega
  ·have:=zOu l a a h0 (by omega) (by omega) (by omega)
   constructor
   ·intro h2;rw[this.1 (by omega) (by omega)];omega
   ·intro h2;exact this.2 (.inr (by omega))
theorem zOu:∀(l:List Tm) (a m:Int),0≤a->a≤128->a≤m->m≤129->(m≤128->a+vQ l≤128->dpL l a m=max m (a+vQ l))∧((m=129∨128<a+vQ l)->dpL l a m=129)
 | [],a,m,h0,h1,h2,h3=>by rw[dpL,vQ];omega
 |t::l,a,m,h0,h1,h2,h3=>by
  rw[dpL,vQ]
  have ht:=zOv t (a+1) (by omega) (by omega)
  have hb:=zUl t (a+1) (by omega) (by omega)
  have hm:a≤iG m (dpT t (a+1))∧iG m (dpT t (a+1))≤129:=by unfold iG;split<;>omega
  have hl:=zOu l a (iG m (dpT t (a+1))) h0 h1 hm.1 hm.2
  have hh:1≤t.high:=by cases t;rw[Tm.high];omega
  constructor
  ·intro h4 h5
   have e:=ht.1 (by omega)
   rw[e]at hl ⊢
   have hi:iG m (a+1+t.high-1)=max m (a+t.high):=by unfold iG;split<;>omega
   rw[hi]at hl ⊢
   rw[hl.1 (by omega) (by omega)];omega
  ·intro h4
   refine hl.2 ?_
   rcases h4 with h4|h4
   ·exact .inl (by unfold iG;split<;>omega)
   ·by_cases h5:128<a+vQ l
    ·exact .inr h5
    ·refine .inl ?_
     have e:dpT t (a+1)=129:=by
      by_cases h6:a+1+t.high≤129
      ·omega
      ·exact ht.2 (by omega)
     rw[e];unfold iG;split<;>omega
end
def rJ(t:Tm):Bool:=
  decide (1≤t.k)&&decide (t.k≤8)&&decide (0≤t.n) &&
  (if t.k=3∨t.k=4∨t.k=5 then decide (t.sub.length=2)&&decide (t.n≤0)
   else if t.k=7 then decide (t.sub.length=1)&&decide (t.n≤1048576)&&(t.sub.head?.any fun x=>x.k==2)
   else decide (t.sub.length=0)&&(if t.k=2 then decide (t.n≤7)else decide (t.n≤1048576)))
theorem vN{t:Tm}(h:rJ t=true):1≤t.k∧t.k≤8∧0≤t.n∧t.n≤1048576∧t.sub.length≤2 ∧
  (t.k=3∨t.k=4∨t.k=5->t.sub.length=2∧t.n≤0)∧(t.k=7->∃x,t.sub=[x]∧x.k=2)∧(t.k=1∨t.k=2∨t.k=6∨t.k=8->t.sub=[])∧(t.k=2->t.n≤7):=by
 unfold rJ at h
 revert h
 generalize t.k=k
 generalize t.n=n
 generalize t.sub=l
 intro h
 simp only[Bool.and_eq_true,decide_eq_true_eq]at h
 obtain⟨⟨⟨h1,h2⟩,h3⟩,h4⟩:=h
 split at h4
 ·simp only[Bool.and_eq_true,decide_eq_true_eq]at h4
  refine⟨h1,h2,h3,by omega,by omega,fun _=>h4,by omega,by omega,by omega⟩
 ·split at h4
  ·simp only[Bool.and_eq_true,decide_eq_true_eq]at h4
   obtain⟨⟨h5,h6⟩,h7⟩:=h4
   obtain⟨x,rfl⟩:∃x,l=[x]:=by
    rcases l with _|⟨x,_|⟨y,l⟩⟩<;>simp at h5
    exact⟨x,rfl⟩
   refine⟨h1,h2,h3,h6,by simp,by omega,fun _=>⟨x,rfl,by simpa using h7⟩,by omega,by omega⟩
  ·simp only[Bool.and_eq_true,decide_eq_true_eq]at h4
   have hl:l=[]:=List.length_eq_zero_iff.1 h4.1
   refine⟨h1,h2,h3,?_,by omega,by omega,by omega,fun _=>hl,fun h8=>?_⟩
   ·have:=h4.2
    split at this<;>(simp at this;omega)
   ·have:=h4.2
    rw[if_pos h8]at this
    simpa using this
mutual
def xB:Tm->Bool
 | .mk k n l=>rJ (.mk k n l)&&wZ l
def wZ:List Tm->Bool
 | []=>true
 |t::l=>xB t&&wZ l
end
def zH(t:Tm):Bool:=decide (t.nodes≤8192)&&decide (t.high≤128)&&xB t
def cV(k:Int)(i:Nat):Int:=if i=1∧(k=3∨k=4)then 1 else 0
mutual
def mY:Tm->Int->Int
 | .mk k n l,b=>if k=1 then max 0 (n+1-b)else kU l k 0 b
def kU:List Tm->Int->Nat->Int->Int
 | [],_,_,_=>0
 |t::l,k,i,b=>max (mY t (b+cV k i)) (kU l k (i+1) b)
end
mutual
def qL:Tm->Int->Int->List Int
 | .mk k n l,a,b=>(if k=a∨k=b then [n]else [])++E2 l a b
def E2:List Tm->Int->Int->List Int
 | [],_,_=>[]
 |t::l,a,b=>qL t a b++E2 l a b
end
open Go.RowKit
def rdG(W:World):Gh:=⟨fun _=>none,fun _=>none,fun b o=>∃v,W.cell? ⟨b,o,none⟩=some v,W,fun b=>b<W.heap.size,fun _=>False⟩
theorem zVl(W:World):yN (rdG W) (yU (vY 0) (S1 [])) W:=by
 refine⟨fun _=>⟨fun _=>.inr rfl,fun _=>⟨rfl,id⟩,fun e=>e.elim⟩,⟨0,fun _ _=>rfl⟩,fun _ _ _ h=>?_,fun _ _ _ h=>?_,fun _ _ h=>⟨h,fun i e=>by cases e⟩,fun _ _=>rfl,fun _ h=>?_,fun _ _ _ _ _ _ _ h=>?_,uU.refl _ _,fun _ h=>h⟩
 ·cases h
 ·cases h
 ·cases h
 ·cases h
theorem zRV(W:World):iE (0:Nat) (rdG W):=⟨fun _ _=>⟨rfl,id⟩,fun _=>rfl,fun _ _ ⟨_,h⟩=>World.block_lt_of_cell? W _ h,trivial⟩
theorem w6{W:World}:∀(xs:List AV) (cs:List Value) (b off:Nat),VL (rdG W) W xs cs->(∀i,i<xs.length->W.cell? ⟨b,off+i,none⟩=cs[i]?)->VC (rdG W) W xs b off
 | [],_,_,_,_,_=>by simp only[VC]
 |a::xs,c::cs,b,off,hv,h=>by
  simp only[VL]at hv
  have h0:=h 0 (by simp)
  simp only[Nat.add_zero,List.getElem?_cons_zero]at h0
  simp only[VC]
  refine⟨⟨c,h0⟩,⟨c,h0,hv.1⟩,w6 xs cs b (off+1) hv.2 fun i hi=>?_⟩
  have:=h (i+1) (by simp;omega)
  simpa[Nat.add_assoc,Nat.add_comm 1 i]using this
 |_::_,[],_,_,hv,_=>by simp only[VL]at hv
theorem zEG{W:World}{b:Nat}:∀(n off:Nat),(∀i,i<n->∃(cs:List Value) (t:Tm),(∀j,j<3->W.cell? ⟨b,off+i*3+j,none⟩=cs[j]?)∧VL (rdG W) W (cS t) cs∧t.Ok) ->
  ∃l:List Tm,l.length=n∧VC (rdG W) W (zG zD l) b off∧mX l
 |0,off,_=>⟨[],rfl,by simp[zG,VC],by rw[mX];trivial⟩
 |n+1,off,h=>by
  obtain⟨cs,t,hc,ht,hto⟩:=h 0 (by omega)
  obtain⟨l,hl,hV,hlo⟩:=zEG (W:=W) (b:=b) n (off+3) fun i hi=>by
   obtain⟨cs,t,hc,ht,hto⟩:=h (i+1) (by omega)
   refine⟨cs,t,fun j hj=>?_,ht,hto⟩
   rw[←hc j hj]
   congr 2
   omega
  refine⟨t::l,by simp[hl],?_,by rw[mX];exact⟨hto,hlo⟩⟩
  have e:zG zD (t::l)=cS t++zG zD l:=by simp only[zG,List.flatMap_cons,xW]
  rw[e]
  refine VC.append _ _ _ _ (w6 _ cs _ _ ht fun i hi=>?_) (by simpa[cS]using hV)
  simpa using hc i (by simpa[cS]using hi)
end Go.Ab
namespace Go.Proofs.YtfbkefchjcocmaaGreat
open Go Go.Ab Go.RowKit Go.Proofs Go.Proofs.Tryz
theorem zRW{H:Type}{enc:TypeId×Value->H}{W:World}{n:Nat}{c2:Value}{x:DataW H×List MemPlace}
  (ih:∀m,n=m+1->∀(cs:List Value) (x:DataW H×List MemPlace),DataW.trod enc prog W 0 (fun _=>true) true m 39 cs=some x->∃t:Tm,VL (rdG W) W (cS t) cs∧t.Ok)
  (f2:DataW.trod enc prog W 0 (fun _=>true) true n 24 [c2]=some x):∃l:List Tm,V (rdG W) W (.sl (zG zD l) l.length .no) c2∧mX l∧l.length<9223372036854775808:=by
 rcases DataW.trod_slice Tryz.underlying24 f2 with⟨e2,-⟩|⟨a,len,cap,elems,rest,m,hm,e2,-,-,hle,hmx,hel,hE,hR,-⟩
 ·cases e2
  exact⟨[],by simp only[V];exact⟨0,Nat.le_refl _,.inl ⟨rfl,rfl,rfl,rfl,trivial⟩⟩,by rw[mX];trivial,by simp⟩
 ·cases e2
  have rd:∀i,i<cap->∃(cs:List Value) (t:Tm),W.cells? 0 (a.add (i*3)) 3=some cs∧VL (rdG W) W (cS t) cs∧t.Ok:=by
   intro i hi
   have got:∃y,(W.cells? 0 (a.add (i*3)) 3).bind (DataW.trod enc prog W 0 (fun _=>true) true m 39)=some y:=by
    rw[←zAV]
    rcases Nat.lt_or_ge i len with hlt|hge
    ·rw[hE i hlt];exact⟨_,List.getElem?_eq_getElem (by omega)⟩
    ·obtain⟨r1,r2⟩:=hR rfl
     have:=r2 (i-len) (by omega)
     rw[show len+(i-len)=i by omega]at this
     rw[this];exact⟨_,List.getElem?_eq_getElem (by omega)⟩
   obtain⟨y,hy⟩:=got
   obtain⟨cs,h1,h2⟩:=Option.bind_eq_some_iff.1 hy
   obtain⟨t,ht⟩:=ih m hm cs y h2
   exact⟨cs,t,h1,ht⟩
  rcases Nat.eq_zero_or_pos cap with e|hpos
  ·subst e
   have:len=0:=by omega
   subst this
   exact⟨[],by simp only[V];exact⟨0,Nat.le_refl _,.inl ⟨rfl,rfl,rfl,rfl,trivial⟩⟩,by rw[mX];trivial,by simp⟩
  ·obtain⟨b,off,spot⟩:=a
   have hsp:spot=none:=by
    obtain⟨cs,t,h1,h2⟩:=rd 0 hpos
    obtain⟨_,hl,hc⟩:=World.cells?_some h1
    have g0:=hc 0 (by omega)
    obtain⟨c0,hc0⟩:∃c0,cs[0]? = some c0:=⟨_,List.getElem?_eq_getElem (by omega)⟩
    rw[hc0]at g0
    simpa[Addr.add]using World.cell?_spot g0
   subst hsp
   obtain⟨l,hl,hV,hlo⟩:=zEG (W:=W) (b:=b) len off fun i hi=>by
    obtain⟨cs,t,h1,h2⟩:=rd i (by omega)
    obtain⟨_,_,hc⟩:=World.cells?_some h1
    exact⟨cs,t,fun j hj=>by have:=hc j hj;simpa[Addr.add_lit]using this,h2⟩
   refine⟨l,?_,hlo,by have:maxLen=9223372036854775807:=rfl;omega⟩
   simp only[V]
   exact⟨cap,by omega,.inr ⟨b,off,by rw[hl],hV,trivial⟩⟩
theorem zJm{H:Type}{enc:TypeId×Value->H}{W:World}:∀(fuel:Nat) (cs:List Value) (x:DataW H×List MemPlace),DataW.trod enc prog W 0 (fun _=>true) true fuel 39 cs=some x->∃t:Tm,VL (rdG W) W (cS t) cs∧t.Ok:=by
 intro fuel
 induction fuel using Nat.strongRecOn with
 |ind fuel ih=>
  intro cs x h
  obtain⟨xs,n,hn,-,hlen,hxs,hf⟩:=DataW.trod_struct Tryz.underlying39 h
  have hlen:cs.length=3:=hlen.trans zAV
  obtain⟨c0,c1,c2,rfl⟩:∃c0 c1 c2,cs=[c0,c1,c2]:=by
   rcases cs with _|⟨a,_|⟨b,_|⟨c,_|⟨e,cs⟩⟩⟩⟩<;>simp only[List.length_nil,List.length_cons]at hlen<;>first|exact⟨a,b,c,rfl⟩|omega
  have c3:prog.cellsOf 3=1:=by kernel_rfl
  have c71:prog.cellsOf 24=1:=by kernel_rfl
  have f0:DataW.trod enc prog W 0 (fun _=>true) true n 3 ((List.drop 0 [c0,c1,c2]).take (prog.cellsOf 3))=xs[0]?:=hf 0 _ rfl
  have f1:DataW.trod enc prog W 0 (fun _=>true) true n 3 ((List.drop 1 [c0,c1,c2]).take (prog.cellsOf 3))=xs[1]?:=hf 1 _ rfl
  have f2:DataW.trod enc prog W 0 (fun _=>true) true n 24 ((List.drop 2 [c0,c1,c2]).take (prog.cellsOf 24))=xs[2]?:=hf 2 _ rfl
  rw[c3]at f0 f1
  rw[c71]at f2
  replace f0:DataW.trod enc prog W 0 (fun _=>true) true n 3 [c0]=xs[0]?:=f0
  replace f1:DataW.trod enc prog W 0 (fun _=>true) true n 3 [c1]=xs[1]?:=f1
  replace f2:DataW.trod enc prog W 0 (fun _=>true) true n 24 [c2]=xs[2]?:=f2
  have hsz:xs.length=3:=hxs
  obtain⟨y0,y1,y2,rfl⟩:∃y0 y1 y2,xs=[y0,y1,y2]:=by
   rcases xs with _|⟨a,_|⟨b,_|⟨c,_|⟨e,xs⟩⟩⟩⟩<;>simp only[List.length_nil,List.length_cons]at hsz<;>first|exact⟨a,b,c,rfl⟩|omega
  simp only[List.getElem?_cons_zero,List.getElem?_cons_succ]at f0 f1 f2
  obtain⟨k0,e0,-,-⟩:=DataW.trod_int Tryz.underlying3 f0
  obtain⟨k1,e1,-,-⟩:=DataW.trod_int Tryz.underlying3 f1
  cases e0;cases e1
  have key:=zRW (W:=W) (n:=n) (fun m hm cs x hx=>ih m (by omega) cs x hx) f2
  obtain⟨l,hl,ho,hlen⟩:=key
  refine⟨.mk k0 k1 l,?_,by rw[Tm.Ok];exact⟨hlen,ho⟩⟩
  simp only[cS,Tm.k,Tm.n,Tm.sub,VL]
  exact⟨by simp only[V],by simp only[V],hl,trivial⟩
end Go.Proofs.YtfbkefchjcocmaaGreat
namespace Go.Ab
open Go Go.RowKit
def Wt{H:Type}(P:Program)(t:TypeId)(d:DataW H):Prop:=∀w∈d.weights P t,w≤reachBytes
theorem zCa{H:Type}{P:Program}:∀(ts:List TypeId) (ds:List (DataW H)) (i:Nat) (t:TypeId) (d:DataW H),ts[i]? = some t->ds[i]? = some d->∀w∈d.weights P t,w∈DataW.weightsEach P ts ds
 | [],_,i,t,d,h,_,w,_=>by simp at h
 |_::_,[],i,t,d,_,h,w,_=>by simp at h
 |t0::ts,d0::ds,0,t,d,h,k,w,hw=>by
  simp only[List.getElem?_cons_zero,Option.some.injEq]at h k
  subst h;subst k
  rw[DataW.weightsEach];exact List.mem_append_left _ hw
 |t0::ts,d0::ds,i+1,t,d,h,k,w,hw=>by
  rw[DataW.weightsEach]
  exact List.mem_append_right _ (zCa ts ds i t d (by simpa using h) (by simpa using k) w hw)
theorem zHa{H:Type}{P:Program}{e:TypeId}:∀(ds:List (DataW H)) (d:DataW H),d∈ds->∀w∈d.weights P e,w∈DataW.weightsAll P e ds
 |d0::ds,d,h,w,hw=>by
  rw[DataW.weightsAll]
  rcases List.mem_cons.1 h with rfl|h
  ·exact List.mem_append_left _ hw
  ·exact List.mem_append_right _ (zHa ds d h w hw)
theorem jK{H:Type}{P:Program}{t:TypeId}{fs:Array Field}(ht:P.underlying t=some (.struct fs)){parts:List (DataW H)}(h:Wt P t (.agg parts)){i:Nat}{f:Field}{d:DataW H}(hf:fs[i]? = some f)(hd:parts[i]? = some d):Wt P f.type d:=fun w hw=>by
 refine h w ?_
 rw[DataW.weights,ht]
 exact zCa _ _ i f.type d (by rw[List.getElem?_map,Array.getElem?_toList,hf];rfl) hd w hw
theorem zOt{H:Type}{P:Program}{t e:TypeId}(ht:P.underlying t=some (.slice e)){es rs:List (DataW H)}(h:Wt P t (.slice es rs)):(es.length+rs.length)*P.bytesOf e≤reachBytes∧(∀d∈es,Wt P e d)∧∀d∈rs,Wt P e d:=by
 unfold Wt at h
 rw[DataW.weights,ht]at h
 refine⟨h _ (by simp),fun d hd w hw=>h w ?_,fun d hd w hw=>h w ?_⟩
 ·exact List.mem_cons_of_mem _ (List.mem_append_left _ (zHa es d hd w hw))
 ·exact List.mem_cons_of_mem _ (List.mem_append_right _ (zHa rs d hd w hw))
theorem zBt{α:Type}(cells:α->List AV)(c:Nat)(hcl:∀x,(cells x).length=c){W:World}{b:Nat}{Q:α->Prop}:∀(n off:Nat),(∀i,i<n->∃(cs:List Value) (x:α),(∀j,j<c->W.cell? ⟨b,off+i*c+j,none⟩=cs[j]?)∧VL (rdG W) W (cells x) cs∧Q x) ->
  ∃l:List α,l.length=n∧VC (rdG W) W (zG cells l) b off∧∀x∈l,Q x
 |0,off,_=>⟨[],rfl,by simp[zG,VC],fun _ h=>nomatch h⟩
 |n+1,off,h=>by
  obtain⟨cs,t,hc,ht,hq⟩:=h 0 (by omega)
  obtain⟨l,hl,hV,hlo⟩:=zBt cells c hcl (W:=W) (b:=b) (Q:=Q) n (off+c) fun i hi=>by
   obtain⟨cs,t,hc,ht,hto⟩:=h (i+1) (by omega)
   refine⟨cs,t,fun j hj=>?_,ht,hto⟩
   rw[←hc j hj]
   congr 2
   rw[Nat.succ_mul];omega
  refine⟨t::l,by simp[hl],?_,fun x hx=>(List.mem_cons.1 hx).elim (fun e=>e▸hq) (hlo x)⟩
  have e:zG cells (t::l)=cells t++zG cells l:=by simp only[zG,List.flatMap_cons]
  rw[e]
  refine VC.append _ _ _ _ (w6 _ cs _ _ ht fun i hi=>?_) (by rw[hcl];exact hV)
  rw[hcl]at hi
  simpa using hc i hi
theorem zBs{α:Type}(cells:α->List AV)(c:Nat)(hcl:∀x,(cells x).length=c)(hpos:0<c){H:Type}{enc:TypeId×Value->H}{P:Program}{W:World}{n:Nat}{t e:TypeId}{c2:Value}{x:DataW H×List MemPlace}{Q:α->Prop}
  (ht:P.underlying t=some (.slice e)) (hc:P.cellsOf e=c)
  (ih:∀m,n=m+1->∀(cs:List Value) (x:DataW H×List MemPlace),DataW.trod enc P W 0 (fun _=>true) true m e cs=some x->Wt P e x.1->∃a:α,VL (rdG W) W (cells a) cs∧Q a)
  (f2:DataW.trod enc P W 0 (fun _=>true) true n t [c2]=some x) (hw:Wt P t x.1):∃l:List α,V (rdG W) W (.sl (zG cells l) l.length .no) c2∧(∀a∈l,Q a)∧l.length*P.bytesOf e≤reachBytes:=by
 rcases DataW.trod_slice ht f2 with⟨e2,-⟩|⟨a,len,cap,elems,rest,m,hm,e2,hx,-,hle,hmx,hel,hE,hR,-⟩
 ·cases e2
  exact⟨[],by simp only[V];exact⟨0,Nat.le_refl _,.inl ⟨rfl,rfl,rfl,rfl,trivial⟩⟩,fun _ h=>(nomatch h),by simp⟩
 ·cases e2
  rw[hx]at hw
  obtain⟨w1,w2,w3⟩:=zOt ht hw
  rw[hc]at hE hR
  have rd:∀i,i<cap->∃(cs:List Value) (t:α),W.cells? 0 (a.add (i*c)) c=some cs∧VL (rdG W) W (cells t) cs∧Q t:=by
   intro i hi
   have got:∃y,(W.cells? 0 (a.add (i*c)) c).bind (DataW.trod enc P W 0 (fun _=>true) true m e)=some y∧Wt P e y.1:=by
    rcases Nat.lt_or_ge i len with hlt|hge
    ·rw[hE i hlt];exact⟨_,List.getElem?_eq_getElem (by omega),w2 _ (List.mem_map_of_mem (List.getElem_mem _))⟩
    ·obtain⟨r1,r2⟩:=hR rfl
     have:=r2 (i-len) (by omega)
     rw[show len+(i-len)=i by omega]at this
     rw[this];exact⟨_,List.getElem?_eq_getElem (by omega),w3 _ (List.mem_map_of_mem (List.getElem_mem _))⟩
   obtain⟨y,hy,hyw⟩:=got
   obtain⟨cs,h1,h2⟩:=Option.bind_eq_some_iff.1 hy
   obtain⟨t,ht⟩:=ih m hm cs y h2 hyw
   exact⟨cs,t,h1,ht⟩
  rcases Nat.eq_zero_or_pos cap with e0|hp
  ·subst e0
   have:len=0:=by omega
   subst this
   exact⟨[],by simp only[V];exact⟨0,Nat.le_refl _,.inl ⟨rfl,rfl,rfl,rfl,trivial⟩⟩,fun _ h=>(nomatch h),by simp⟩
  ·obtain⟨b,off,spot⟩:=a
   have hsp:spot=none:=by
    obtain⟨cs,t,h1,h2⟩:=rd 0 hp
    obtain⟨_,hl,hcc⟩:=World.cells?_some h1
    have g0:=hcc 0 (by omega)
    obtain⟨c0,hc0⟩:∃c0,cs[0]? = some c0:=⟨_,List.getElem?_eq_getElem (by omega)⟩
    rw[hc0]at g0
    simpa[Addr.add]using World.cell?_spot g0
   subst hsp
   obtain⟨l,hl,hV,hlo⟩:=zBt cells c hcl (W:=W) (b:=b) (Q:=Q) len off fun i hi=>by
    obtain⟨cs,t,h1,h2⟩:=rd i (by omega)
    obtain⟨_,_,hcc⟩:=World.cells?_some h1
    exact⟨cs,t,fun j hj=>by have:=hcc j hj;simpa[Addr.add_lit]using this,h2⟩
   refine⟨l,?_,hlo,?_⟩
   ·simp only[V]
    exact⟨cap,by omega,.inr ⟨b,off,by rw[hl],hV,trivial⟩⟩
   ·rw[List.length_map,List.length_map,hel]at w1
    rw[hl]
    exact Nat.le_trans (Nat.mul_le_mul_right _ (Nat.le_add_right _ _)) w1
end Go.Ab
namespace Go.Proofs.YtfbkefchjcocmaaGreat
open Go Go.Ab Go.Proofs.Tryz
mutual
def zHA:Nat->Tm->Int->Option Int
 |0,_,_=>none
 |qq+1,p0,p1=>
 iP qq p0 (xL (p1+1)) 0
def iP:Nat->Tm->Int->Int->Option Int
 |0,_,_,_=>none
 |qq+1,p0,v1,v12=>
 if decide (v12<(p0.sub.length:Int))then
 zW p0.sub v12>>=fun x2=>
 if decide (v1>8192)then
 some v1
 else
 zHA qq x2 v1>>=fun r5=>
 iP qq p0 r5 (xL (v12+1))
 else
 some v1
end
abbrev zYr (p0:Tm) (p1 r:Int) (C:Cf):Prop:=C 142 [] [yY p0,ai p1] (ai r) [] 0
theorem zEH:∀qq:Nat,(∀ {p0 p1 r},zHA qq p0 p1=some r->zYr p0 p1 r Ct)∧(∀ {p0 v1 v12 r},iP qq p0 v1 v12=some r->(∀j,dL 0 (pt 4021 f142) (sp j 23 0 [(1,ai v1),(10,zV zD p0.sub .no),(11,ai (p0.sub.length:Int)),(12,ai v12)]) (⟨[],0,[],0,[]⟩) (fQ 0 (nQ 0 f142 (ai r) [] 0) [.blk 0,.seq (pt 63 f142)]))):=by
 intro qq
 induction qq with
 |zero=>
  exact⟨fun h=>nn h,fun h=>nn h⟩
 |succ qq ih=>
  obtain⟨zYq,zEI⟩:=ih
  refine⟨?_,?_⟩
  intro p0 p1 r h
  rw[zHA]at h
  exact⟨tH ⟨func142,rfl⟩ 3 [] [] [] [1,10,11,12] (oD (dT p0.sub) o0) (zEI h),⟨⟨tv,tv,⟨tv,dT _⟩,tv⟩,tv,tv⟩,zB,tv,zB⟩
  intro p0 v1 v12 r h
  rw[iP]at h
  obtain⟨h1,h⟩|⟨h1,h⟩:=zU h
  obtain⟨x2,h3,h⟩:=zC h
  have k:=oA 0 (xH (o:=.no) h3)<|oB 0 h1 o0
  obtain⟨h4,h⟩|⟨h4,h⟩:=zU h
  obtain rfl:=sj h
  exact fun j=>lF 0 [] (oB 2 h4 k)
  obtain⟨r5,h6,h⟩:=zC h
  exact fun j=>lH 1 [] [] [] [1,10,11,12] (oD (dT p0.sub)<|oC 1 [] (zYq h6)<|oB 2 h4 k) (zEI h)
  obtain rfl:=sj h
  exact fun j=>lF 0 [] (oB 0 h1 o0)
theorem yAU{qq p0 p1 r}(h:zHA qq p0 p1=some r):zYr p0 p1 r Ct:=(zEH _).1 h
def zHB(qq:Nat)(p0:Tm):Option Int:=
 zHA qq p0 0>>=fun r1=>
 some r1
theorem zVk{qq p0 r}(h:zHB qq p0=some r):Ct 106 [] [yY p0] (ai r) [] 0:=⟨by
 unfold zHB at h
 obtain⟨r1,h2,h⟩:=zC h
 obtain rfl:=sj h
 exact tF ⟨func106,rfl⟩ 0 [] (oC 1 [] (yAU h2) o0),⟨⟨tv,tv,⟨tv,dT _⟩,tv⟩,tv⟩,zB,tv,zB⟩
mutual
def zHC:Nat->Tm->Int->Option Int
 |0,_,_=>none
 |qq+1,p0,p1=>
 if decide (p1>128)then
 some p1
 else
 iQ qq p0 p1 0 p1
def iQ:Nat->Tm->Int->Int->Int->Option Int
 |0,_,_,_,_=>none
 |qq+1,p0,p1,v15,v5=>
 if decide (v15<(p0.sub.length:Int))then
 zW p0.sub v15>>=fun x3=>
 zHC qq x3 (xL (p1+1))>>=fun r5=>
 iQ qq p0 p1 (xL (v15+1)) (iG v5 r5)
 else
 some v5
end
abbrev zYp (p0:Tm) (p1 r:Int) (C:Cf):Prop:=C 107 [] [yY p0,ai p1] (ai r) [] 0
theorem zYo:Qf 107 f107:=⟨func107,rfl⟩
theorem zEJ:∀qq:Nat,(∀ {p0 p1 r},zHC qq p0 p1=some r->zYp p0 p1 r Ct)∧(∀ {p0 p1 v15 v5 r},iQ qq p0 p1 v15 v5=some r->(∀j,dL 0 (pt 16309 f107) (sp j 27 0 [(1,ai p1),(5,ai v5),(13,zV zD p0.sub .no),(14,ai (p0.sub.length:Int)),(15,ai v15)]) (⟨[],0,[],0,[]⟩) (fQ 0 (nQ 0 f107 (ai r) [] 0) [.blk 0,.seq (pt 255 f107)]))):=by
 intro qq
 induction qq with
 |zero=>
  exact⟨fun h=>nn h,fun h=>nn h⟩
 |succ qq ih=>
  obtain⟨zYn,zEK⟩:=ih
  refine⟨?_,?_⟩
  intro p0 p1 r h
  rw[zHC]at h
  obtain⟨h1,h⟩|⟨h1,h⟩:=zU h
  obtain rfl:=sj h
  exact⟨tF zYo 0 [] (oB 0 h1 o0),⟨⟨tv,tv,⟨tv,dT _⟩,tv⟩,tv,tv⟩,zB,tv,zB⟩
  exact⟨tH zYo 2 [] [] [] [1,5,13,14,15] (oD (dT p0.sub)<|oB 0 h1 o0) (zEK h),⟨⟨tv,tv,⟨tv,dT _⟩,tv⟩,tv,tv⟩,zB,tv,zB⟩
  intro p0 p1 v15 v5 r h
  rw[iQ]at h
  obtain⟨h2,h⟩|⟨h2,h⟩:=zU h
  obtain⟨x3,h4,h⟩:=zC h
  obtain⟨r5,h6,h⟩:=zC h
  exact fun j=>lH 2 [] [] [] [1,5,13,14,15] (oD (dT p0.sub)<|oC 4 [] (zYn h6)<|oA 0 (xH (o:=.no) h4)<|oB 0 h2 o0) (zEK h)
  obtain rfl:=sj h
  exact fun j=>lF 0 [] (oB 0 h2 o0)
theorem yAV{qq p0 p1 r}(h:zHC qq p0 p1=some r):zYp p0 p1 r Ct:=(zEJ _).1 h
def zOs(qq:Nat)(p0:Tm):Option Bool:=
 if decide (p0.k<1)then
 some false
 else
 if decide (p0.k>8)then
 some false
 else
 zW ([0,0,0,2,2,2,0,1,0]:zZ) p0.k>>=fun x3=>
 zW ([0,1048576,7,0,0,0,1048576,1048576,1048576]:zZ) p0.k>>=fun x5=>
 if (p0.sub.length:Int)==x3 then
 if decide (p0.n≥0)then
 if decide (p0.n≤x5)then
 if p0.k != 7 then
 some true
 else
 zW p0.sub 0>>=fun x11=>
 some (x11.k==2)
 else
 some false
 else
 some false
 else
 some false
theorem zHD:Qf 108 f108:=⟨func108,rfl⟩
theorem zYm{qq p0 r}(h:zOs qq p0=some r):Ct 108 [] [yY p0] (ab r) [] 0:=⟨by
 unfold zOs at h
 obtain⟨h1,h⟩|⟨h1,h⟩:=zU h
 cases h
 exact tF zHD 0 [] (oB 1 h1 o0)
 have k:=oB 1 h1 o0
 obtain⟨h2,h⟩|⟨h2,h⟩:=zU h
 cases h
 exact tF zHD 0 [] (oB 1 h2 k)
 obtain⟨x3,h4,h⟩:=zC h
 obtain⟨x5,h6,h⟩:=zC h
 have k:=oA 1 (zEE h6 rfl)<|oA 1 (zEE h4 rfl)<|oB 1 h2 k
 obtain⟨h7,h⟩|⟨h7,h⟩:=zU h
 have k:=oB 2 h7 k
 obtain⟨h8,h⟩|⟨h8,h⟩:=zU h
 have k:=oB 1 h8 k
 obtain⟨h9,h⟩|⟨h9,h⟩:=zU h
 have k:=oB 1 h9 k
 obtain⟨h10,h⟩|⟨h10,h⟩:=zU h
 cases h
 exact tF zHD 0 [] (oB 1 h10 k)
 obtain⟨x11,h12,h⟩:=zC h
 cases h
 exact tF zHD 2 [] (oA 1 (xH (o:=.no) h12)<|oB 1 h10 k)
 cases h
 exact tF zHD 0 [] (oB 1 h9 k)
 cases h
 exact tF zHD 0 [] (oB 1 h8 k)
 cases h
 exact tF zHD 0 [] (oB 2 h7 k),⟨⟨tv,tv,⟨tv,dT _⟩,tv⟩,tv⟩,zB,tv,zB⟩
def e75(qq:Nat)(p0:Tm):Option Int:=
 zHB qq p0>>=fun r1=>
 if decide (r1>8192)then
 some 129
 else
 zHC qq p0 1>>=fun r4=>
 some r4
theorem q75:Qf 75 f75:=⟨func75,rfl⟩
theorem c75{qq p0 r}(h:e75 qq p0=some r):Ct 75 [] [yY p0] (ai r) [] 0:=⟨by
 unfold e75 at h
 obtain⟨r1,h2,h⟩:=zC h
 have k:=oC 1 [] (zVk h2) o0
 obtain⟨h3,h⟩|⟨h3,h⟩:=zU h
 obtain rfl:=sj h
 exact tF q75 0 [] (oB 0 h3 k)
 obtain⟨r4,h5,h⟩:=zC h
 obtain rfl:=sj h
 exact tF q75 0 [] (oC 1 [] (yAV h5)<|oB 0 h3 k),⟨⟨tv,tv,⟨tv,dT _⟩,tv⟩,tv⟩,zB,tv,zB⟩
mutual
def e76:Nat->Tm->Option Bool
 |0,_=>none
 |qq+1,p0=>
 zOs qq p0>>=fun r1=>
 if r1 then
 aI qq p0 0
 else
 some false
def aI:Nat->Tm->Int->Option Bool
 |0,_,_=>none
 |qq+1,p0,v11=>
 if decide (v11<(p0.sub.length:Int))then
 zW p0.sub v11>>=fun x5=>
 e76 qq x5>>=fun r7=>
 if r7 then
 aI qq p0 (xL (v11+1))
 else
 some false
 else
 some true
end
abbrev K76 (p0:Tm) (r:Bool) (C:Cf):Prop:=C 76 [] [yY p0] (ab r) [] 0
theorem q76:Qf 76 f76:=⟨func76,rfl⟩
theorem zLa:∀qq:Nat,(∀ {p0 r},e76 qq p0=some r->K76 p0 r Ct)∧(∀ {p0 v11 r},aI qq p0 v11=some r->(∀j,dL 0 (pt 4021 f76) (sp j 19 0 [(9,zV zD p0.sub .no),(10,ai (p0.sub.length:Int)),(11,ai v11)]) (⟨[],0,[],0,[]⟩) (fQ 0 (nQ 0 f76 (ab r) [] 0) [.blk 0,.seq (pt 63 f76)]))):=by
 intro qq
 induction qq with
 |zero=>
  exact⟨fun h=>nn h,fun h=>nn h⟩
 |succ qq ih=>
  obtain⟨zYk,zJl⟩:=ih
  refine⟨?_,?_⟩
  intro p0 r h
  rw[e76]at h
  obtain⟨r1,h2,h⟩:=zC h
  obtain⟨h3,h⟩|⟨h3,h⟩:=zU h
  exact⟨tH q76 3 [] [] [] [9,10,11] (oD (dT p0.sub)<|oK 1 [] h3 (zYm h2) o0) (zJl h),⟨⟨tv,tv,⟨tv,dT _⟩,tv⟩,tv⟩,zB,tv,zB⟩
  cases h
  exact⟨tF q76 1 [] (oK 1 [] h3 (zYm h2) o0),⟨⟨tv,tv,⟨tv,dT _⟩,tv⟩,tv⟩,zB,tv,zB⟩
  intro p0 v11 r h
  rw[aI]at h
  obtain⟨h4,h⟩|⟨h4,h⟩:=zU h
  obtain⟨x5,h6,h⟩:=zC h
  obtain⟨r7,h8,h⟩:=zC h
  have k:=oA 0 (xH (o:=.no) h6)<|oB 0 h4 o0
  obtain⟨h9,h⟩|⟨h9,h⟩:=zU h
  exact fun j=>lH 2 [] [] [] [9,10,11] (oD (dT p0.sub)<|oK 3 [] h9 (zYk h8) k) (zJl h)
  cases h
  exact fun j=>lF 1 [] (oK 3 [] h9 (zYk h8) k)
  cases h
  exact fun j=>lF 0 [] (oB 0 h4 o0)
theorem c76{qq p0 r}(h:e76 qq p0=some r):K76 p0 r Ct:=(zLa _).1 h
def bI(qq:Nat)(p0:Tm):Option Bool:=
 e75 qq p0>>=fun r1=>
 if decide (r1≤128)then
 e76 qq p0>>=fun r4=>
 some r4
 else
 some false
theorem q52:Qf 52 f52:=⟨func52,rfl⟩
theorem nC{qq p0 r}(h:bI qq p0=some r):Ct 52 [] [yY p0] (ab r) [] 0:=⟨by
 unfold bI at h
 obtain⟨r1,h2,h⟩:=zC h
 have k:=oC 1 [] (c75 h2) o0
 obtain⟨h3,h⟩|⟨h3,h⟩:=zU h
 obtain⟨r4,h5,h⟩:=zC h
 obtain rfl:=sj h
 exact tF q52 0 [] (oC 1 [] (c76 h5)<|oB 0 h3 k)
 obtain rfl:=sj h
 exact tF q52 0 [] (oB 0 h3 k),⟨⟨tv,tv,⟨tv,dT _⟩,tv⟩,tv⟩,zB,tv,zB⟩
mutual
theorem zJk:∀(t:Tm) (h:Int),t.Ok->0≤h->h≤8192->zJ (fun q=>zHA q t h) (szT t h)
 | .mk k n l,h,ho,h0,h1=>by
  refine zJ.succ ?_
  simp only[zHA]
  rw[yW (by omega) (by omega),szT]
  exact zEL l (.mk k n l) 0 (h+1) rfl ho.1 ho.2 (by omega) (by omega)
theorem zEL:∀(l:List Tm) (p:Tm) (v:Nat) (h:Int),p.sub.drop v=l->p.sub.length<9223372036854775808->mX l->0≤h->h≤8193->zJ (fun q=>iP q p h (v:Int)) (szL l h)
 | [],p,v,h,hd,hl,ho,h0,h1=>by
  refine zJ.succ ?_
  simp only[iP]
  rw[szL]
  exact zJ.ifF (yH hd) zJ.ret
 |t::l,p,v,h,hd,hl,ho,h0,h1=>by
  refine zJ.succ ?_
  simp only[iP]
  refine zJ.ifT (yG hd) (zJ.pure (yD hd) ?_)
  rw[szL]
  by_cases h2:h>8192
  ·rw[if_pos h2];exact zJ.ifT (by simpa using h2) zJ.ret
  ·rw[if_neg h2]
   refine zJ.ifF (by simpa using h2) ((zJk t h ho.1 h0 (by omega)).bind ?_)
   rw[yA v (by have:=yL hd;omega)]
   have:=zEF t h h0 (by omega)
   exact zEL l p (v+1) (szT t h) (zY hd) hl ho.2 (by omega) (by omega)
end
theorem zCA(t:Tm)(ho:t.Ok):zJ (fun q=>zHB q t) (szT t 0):=by
 simp only[zHB]
 exact(zJk t 0 ho (by omega) (by omega)).bind zJ.ret
mutual
theorem zJj:∀(t:Tm) (a:Int),t.Ok->0≤a->a≤129->zJ (fun q=>zHC q t a) (dpT t a)
 | .mk k n l,a,ho,h0,h1=>by
  refine zJ.succ ?_
  simp only[zHC]
  rw[dpT]
  by_cases h2:a>128
  ·rw[if_pos h2];exact zJ.ifT (by simpa using h2) zJ.ret
  ·rw[if_neg h2];exact zJ.ifF (by simpa using h2) (zEM l (.mk k n l) 0 a a rfl ho.1 ho.2 h0 (by omega))
theorem zEM:∀(l:List Tm) (p:Tm) (v:Nat) (a m:Int),p.sub.drop v=l->p.sub.length<9223372036854775808->mX l->0≤a->a≤128->zJ (fun q=>iQ q p a (v:Int) m) (dpL l a m)
 | [],p,v,a,m,hd,hl,ho,h0,h1=>by
  refine zJ.succ ?_
  simp only[iQ]
  rw[dpL]
  exact zJ.ifF (yH hd) zJ.ret
 |t::l,p,v,a,m,hd,hl,ho,h0,h1=>by
  refine zJ.succ ?_
  simp only[iQ]
  refine zJ.ifT (yG hd) (zJ.pure (yD hd) ?_)
  rw[dpL,yW (x:=a+1) (by omega) (by omega)]
  refine(zJj t (a+1) ho.1 (by omega) (by omega)).bind ?_
  rw[yA v (by have:=yL hd;omega)]
  exact zEM l p (v+1) a _ (zY hd) hl ho.2 h0 h1
end
def zOr(t:Tm):Int:=if szT t 0>8192 then 129 else dpT t 1
theorem zOq(t:Tm)(ho:t.Ok):zJ (fun q=>e75 q t) (zOr t):=by
 simp only[e75]
 refine(zCA t ho).bind ?_
 unfold zOr
 by_cases h:szT t 0>8192
 ·rw[if_pos h];exact zJ.ifT (by simpa using h) zJ.ret
 ·rw[if_neg h];exact zJ.ifF (by simpa using h) ((zJj t 1 ho (by omega) (by omega)).bind zJ.ret)
theorem zRX(t:Tm):zOr t≤128↔t.nodes≤8192∧t.high≤128:=by
 have h1:=zOx t 0 (by omega) (by omega)
 have h2:=zOv t 1 (by omega) (by omega)
 unfold zOr
 by_cases h3:t.nodes≤8192
 ·rw[if_neg (by rw[h1.1 (by omega)];omega)]
  by_cases h4:t.high≤128
  ·rw[h2.1 (by omega)];omega
  ·rw[h2.2 (by omega)];omega
 ·rw[if_pos (by rw[h1.2 (by omega)];omega)];omega
theorem zRY(t:Tm):zJ (fun q=>zOs q t) (rJ t):=by
 refine zJ.mk fun q=>?_
 unfold zOs rJ
 generalize t.k=k
 generalize t.n=n
 generalize t.sub=l
 by_cases h1:k<1
 ·rw[zRQ (decide_eq_true h1)];simp;omega
 ·by_cases h2:k>8
  ·rw[zNS (decide_eq_false h1),zRQ (decide_eq_true h2)];simp;omega
  ·rw[zNS (decide_eq_false h1),zNS (decide_eq_false h2)]
   have:k=1∨k=2∨k=3∨k=4∨k=5∨k=6∨k=7∨k=8:=by omega
   rcases this with rfl|rfl|rfl|rfl|rfl|rfl|rfl|rfl
   case inr.inr.inr.inr.inr.inr.inl=>
    rcases l with _|⟨x,_|⟨y,l⟩⟩<;>simp[zW]<;>grind
   case inr.inr.inl|inr.inr.inr.inl|inr.inr.inr.inr.inl=>
    by_cases hl:l.length=2
    ·simp[zW,hl];grind
    ·have h':¬((l.length:Int)=2):=by omega
     simp[zW,hl,h']
   all_goals (simp[zW];grind)
mutual
theorem zJi:∀(t:Tm),t.Ok->zJ (fun q=>e76 q t) (xB t)
 | .mk k n l,ho=>by
  refine zJ.succ ?_
  simp only[e76]
  refine(zRY (.mk k n l)).bind ?_
  rw[xB]
  cases rJ (.mk k n l)with
  |false=>exact zJ.ifF rfl zJ.ret
  |true=>exact zJ.ifT rfl (zEN l (.mk k n l) 0 rfl ho.1 ho.2)
theorem zEN:∀(l:List Tm) (p:Tm) (v:Nat),p.sub.drop v=l->p.sub.length<9223372036854775808->mX l->zJ (fun q=>aI q p (v:Int)) (wZ l)
 | [],p,v,hd,hl,ho=>by
  refine zJ.succ ?_
  simp only[aI]
  rw[wZ]
  exact zJ.ifF (yH hd) zJ.ret
 |t::l,p,v,hd,hl,ho=>by
  refine zJ.succ ?_
  simp only[aI]
  refine zJ.ifT (yG hd) (zJ.pure (yD hd) ((zJi t ho.1).bind ?_))
  rw[wZ]
  cases xB t with
  |false=>exact zJ.ifF rfl zJ.ret
  |true=>
   refine zJ.ifT rfl ?_
   rw[yA v (by have:=yL hd;omega)]
   exact zEN l p (v+1) (zY hd) hl ho.2
end
theorem xN(t:Tm)(ho:t.Ok):zJ (fun q=>bI q t) (zH t):=by
 simp only[bI]
 refine(zOq t ho).bind ?_
 have h:=zRX t
 unfold zH
 by_cases h1:zOr t≤128
 ·refine zJ.ifT (by simpa using h1) (((zJi t ho).bind zJ.ret).eq ?_)
  have:=h.1 h1
  simp[this.1,this.2]
 ·refine zJ.ifF (by simpa using h1) (zJ.ret.eq ?_)
  by_cases h2:t.nodes≤8192
  ·by_cases h3:t.high≤128
   ·exact absurd (h.2 ⟨h2,h3⟩) h1
   ·simp[h3]
  ·simp[h2]
def zOp(qq:Nat)(p0:Tm)(p1:Int):Option Int:=
 if p1==1 then
 if p0.k==3 then
 some 1
 else
 if p0.k==4 then
 some 1
 else
 some 0
 else
 some 0
theorem zRZ:Qf 182 f182:=⟨func182,rfl⟩
theorem yAW{qq p0 p1 r}(h:zOp qq p0 p1=some r):Ct 182 [] [yY p0,ai p1] (ai r) [] 0:=⟨by
 unfold zOp at h
 obtain⟨h1,h⟩|⟨h1,h⟩:=zU h
 have k:=oB 0 h1 o0
 obtain⟨h2,h⟩|⟨h2,h⟩:=zU h
 cases h
 exact tF zRZ 0 [] (oB 1 h2 k)
 have k:=oB 1 h2 k
 obtain⟨h3,h⟩|⟨h3,h⟩:=zU h
 cases h
 exact tF zRZ 0 [] (oB 1 h3 k)
 cases h
 exact tF zRZ 0 [] (oB 1 h3 k)
 cases h
 exact tF zRZ 0 [] (oB 0 h1 o0),⟨⟨tv,tv,⟨tv,dT _⟩,tv⟩,tv,tv⟩,zB,tv,zB⟩
mutual
def zEO:Nat->Tm->Int->Option Int
 |0,_,_=>none
 |qq+1,p0,p1=>
 if p0.k==1 then
 some (iG 0 (xL ((xL (p0.n+1))-p1)))
 else
 iR qq p0 p1 0 0
def iR:Nat->Tm->Int->Int->Int->Option Int
 |0,_,_,_,_=>none
 |qq+1,p0,p1,v20,v5=>
 if decide (v20<(p0.sub.length:Int))then
 zW p0.sub v20>>=fun x3=>
 zOp qq p0 v20>>=fun r5=>
 zEO qq x3 (xL (p1+r5))>>=fun r7=>
 iR qq p0 p1 (xL (v20+1)) (iG v5 r7)
 else
 some v5
end
abbrev zYj (p0:Tm) (p1 r:Int) (C:Cf):Prop:=C 145 [] [yY p0,ai p1] (ai r) [] 0
theorem zYi:Qf 145 f145:=⟨func145,rfl⟩
theorem zEP:∀qq:Nat,(∀ {p0 p1 r},zEO qq p0 p1=some r->zYj p0 p1 r Ct)∧(∀ {p0 p1 v20 v5 r},iR qq p0 p1 v20 v5=some r->(∀j,dL 0 (pt 16309 f145) (sp j 36 0 [(1,ai p1),(2,.mp 0 0),(5,ai v5),(18,zV zD p0.sub .no),(19,ai (p0.sub.length:Int)),(20,ai v20)]) (⟨[(0,.cells [ai p0.k,ai p0.n,zV zD p0.sub .no])],1,[],0,[]⟩) (fQ 0 (nQ 0 f145 (ai r) [] 0) [.blk 0,.seq (pt 255 f145)]))):=by
 intro qq
 induction qq with
 |zero=>
  exact⟨fun h=>nn h,fun h=>nn h⟩
 |succ qq ih=>
  obtain⟨zYh,zEQ⟩:=ih
  refine⟨?_,?_⟩
  intro p0 p1 r h
  rw[zEO]at h
  obtain⟨h1,h⟩|⟨h1,h⟩:=zU h
  obtain rfl:=sj h
  exact⟨tF zYi 4 [] (oB 1 h1 o0),⟨⟨tv,tv,⟨tv,dT _⟩,tv⟩,tv,tv⟩,zB,tv,zB⟩
  exact⟨tH zYi 2 [] [0] [] [1,2,5,18,19,20] (oD (dT p0.sub)<|oD (dT p0.sub)<|oB 1 h1 o0) (zEQ h),⟨⟨tv,tv,⟨tv,dT _⟩,tv⟩,tv,tv⟩,zB,tv,zB⟩
  intro p0 p1 v20 v5 r h
  rw[iR]at h
  obtain⟨h2,h⟩|⟨h2,h⟩:=zU h
  obtain⟨x3,h4,h⟩:=zC h
  obtain⟨r5,h6,h⟩:=zC h
  obtain⟨r7,h8,h⟩:=zC h
  exact fun j=>lH 2 [] [0] [] [1,2,5,18,19,20] (oD (dT p0.sub)<|oD (dT p0.sub)<|oC 1 [] (zYh h8)<|oC 4 [] (yAW h6)<|oA 0 (xH (o:=.no) h4)<|oB 0 h2 o0) (zEQ h)
  obtain rfl:=sj h
  exact fun j=>lF 0 [] (oB 0 h2 o0)
theorem zYg{qq p0 p1 r}(h:zEO qq p0 p1=some r):zYj p0 p1 r Ct:=(zEP _).1 h
mutual
def zER:Nat->Tm->Int->Int->Option zZ
 |0,_,_,_=>none
 |qq+1,p0,p1,p2=>
 if p0.k==p1 then
 xF 8 ([]:zZ) [p0.n]>>=fun l2=>
 mD qq p0 p1 p2 0 l2
 else
 if p0.k==p2 then
 xF 8 ([]:zZ) [p0.n]>>=fun l5=>
 mD qq p0 p1 p2 0 l5
 else
 mD qq p0 p1 p2 0 []
def mD:Nat->Tm->Int->Int->Int->zZ->Option zZ
 |0,_,_,_,_,_=>none
 |qq+1,p0,p1,p2,v28,v7=>
 if decide (v28<(p0.sub.length:Int))then
 zW p0.sub v28>>=fun x5=>
 zER qq x5 p1 p2>>=fun r7=>
 xF 8 v7 r7>>=fun l9=>
 mD qq p0 p1 p2 (xL (v28+1)) l9
 else
 some v7
end
abbrev zSz (p0:Tm) (p1 p2:Int) (r:zZ) (C:Cf):Prop:=C 172 [] [yY p0,ai p1,ai p2] (zV yC r (.st 0 1)) [] 1
theorem zVi:Qf 172 f172:=⟨func172,rfl⟩
theorem zVh{p0 p1 p2 r}(h:zSz p0 p1 p2 r Ci):zSz p0 p1 p2 r Ct:=⟨h,⟨⟨tv,tv,⟨tv,dT _⟩,tv⟩,tv,tv,tv⟩,zB,dI _,zB⟩
theorem zES:∀qq:Nat,(∀ {p0 p1 p2 r},zER qq p0 p1 p2=some r->zSz p0 p1 p2 r Ct)∧(∀ {p0 p1 p2 v28 v7 r},mD qq p0 p1 p2 v28 v7=some r->(∀j,dL 0 (pt 16309 f172) (sp j 40 0 [(1,ai p1),(2,ai p2),(7,zV yC v7 (.st 0 1)),(26,zV zD p0.sub .no),(27,ai (p0.sub.length:Int)),(28,ai v28)]) (⟨[],0,[0],1,[]⟩) (fQ 0 (nQ 0 f172 (zV yC r (.st 0 1)) [] 1) [.blk 0,.seq (pt 255 f172)]))∧(∀j,dL 0 (pt 16309 f172) (sp j 40 0 [(1,ai p1),(2,ai p2),(7,zV yC v7 .nl),(26,zV zD p0.sub .no),(27,ai (p0.sub.length:Int)),(28,ai v28)]) (⟨[],0,[],0,[]⟩) (fQ 0 (nQ 0 f172 (zV yC r (.st 0 1)) [] 1) [.blk 0,.seq (pt 255 f172)]))):=by
 intro qq
 induction qq with
 |zero=>
  exact⟨fun h=>nn h,fun h=>nn h⟩
 |succ qq ih=>
  obtain⟨zUj,mZ⟩:=ih
  refine⟨?_,?_⟩
  intro p0 p1 p2 r h
  rw[zER]at h
  obtain⟨h1,h⟩|⟨h1,h⟩:=zU h
  obtain⟨l2,h3,h⟩:=zC h
  exact zVh (tH zVi 2 [] [] [0] [1,2,7,26,27,28] (oD (dT p0.sub)<|oD (dI l2)<|oP 2 (qF h3 (by simp))<|oB 1 h1 o0) ((mZ h).1))
  have k:=oB 1 h1 o0
  obtain⟨h4,h⟩|⟨h4,h⟩:=zU h
  obtain⟨l5,h6,h⟩:=zC h
  exact zVh (tH zVi 2 [] [] [0] [1,2,7,26,27,28] (oD (dT p0.sub)<|oD (dI l5)<|oP 2 (qF h6 (by simp))<|oB 1 h4 k) ((mZ h).1))
  exact zVh (tH zVi 2 [] [] [] [1,2,7,26,27,28] (oD (dT p0.sub)<|oD (dI ([]:zZ))<|oB 1 h4 k) ((mZ h).2))
  intro p0 p1 p2 v28 v7 r h
  rw[mD]at h
  refine⟨?_,?_⟩
  obtain⟨h4,h⟩|⟨h4,h⟩:=zU h
  obtain⟨x5,h6,h⟩:=zC h
  obtain⟨r7,h8,h⟩:=zC h
  obtain⟨l9,h10,h⟩:=zC h
  have k:=oC 3 [] (zUj h8)<|oA 0 (xH (o:=.no) h6)<|oB 0 h4 o0
  by_cases h11:List.length r7=0
  exact fun j=>lH 1 [] [] [0] [1,2,7,26,27,28] (oD (dT p0.sub)<|oD (dI l9)<|oP 0 (zNU h10 h11) k) ((mZ h).1)
  exact fun j=>lH 1 [] [] [2] [1,2,7,26,27,28] (oD (dT p0.sub)<|oD (dI l9)<|oP 0 (qF h10 h11) k) ((mZ h).1)
  obtain rfl:=sj h
  exact fun j=>lG 0 [] [] [0] true (oD (dI v7)<|oB 0 h4 o0)
  obtain⟨h4,h⟩|⟨h4,h⟩:=zU h
  obtain⟨x5,h6,h⟩:=zC h
  obtain⟨r7,h8,h⟩:=zC h
  obtain⟨l9,h10,h⟩:=zC h
  have k:=oC 3 [] (zUj h8)<|oA 0 (xH (o:=.no) h6)<|oB 0 h4 o0
  by_cases h11:List.length r7=0
  exact fun j=>lH 1 [] [] [] [1,2,7,26,27,28] (oD (dT p0.sub)<|oD (dI l9)<|oP 0 (zNU h10 h11) k) ((mZ h).2)
  exact fun j=>lH 1 [] [] [1] [1,2,7,26,27,28] (oD (dT p0.sub)<|oD (dI l9)<|oP 0 (qF h10 h11) k) ((mZ h).1)
  obtain rfl:=sj h
  exact fun j=>lG 0 [(none,6,1)] [] [0] true (oD (dI v7)<|oB 0 h4 o0)
theorem zYf{qq p0 p1 p2 r}(h:zER qq p0 p1 p2=some r):zSz p0 p1 p2 r Ct:=(zES _).1 h
def zOo(qq:Nat)(p0:Tm):Option zZ:=
 (bI qq p0)>>=fun r1=>
 if r1=true then
  (zER qq p0 6 7)>>=fun r4=>
  if decide (List.length r4<4611686018427387904)=true then some (vG r4)else none
 else
  some []
theorem yAX{qq:Nat}{p0:Tm}{r:zZ}(h:zOo qq p0=some r):CT prog 146 [] [yY p0] (.sl (zG yC r) r.length .no) [] 0:=by
 unfold zOo at h
 obtain⟨r1,h2,h⟩:=zC h
 rcases w5 r1 with h3|h3
 ·replace h:=ifT h3 h
  obtain⟨l,h5,h⟩:=zC h
  rcases w5 (decide (List.length l<4611686018427387904))with h6|h6
  ·replace h:=ifT h6 h
   replace h:=Option.some.inj h
   subst h
   subst h3
   have hsz:List.length l<4611686018427387904:=by simpa using h6
   refine⟨?_,⟨⟨trivial,trivial,⟨trivial,dT _⟩,trivial⟩,trivial⟩,(fun _ h=>nomatch h),dI _,(fun _ h=>nomatch h)⟩
   have k0:knd (rV f146)=1:=by kernel_rfl
   have k1:knd (sS (rV f146))=1:=by kernel_rfl
   have k2:knd (sS (sS (rV f146)))=1:=by kernel_rfl
   have k3:D4 (nU (sS (sS (rV f146))))=true:=by kernel_rfl
   have k4:zCj (wR (nU (sS (sS (rV f146)))))[2]? = some (some 8,171,#[.tmp 7]):=by kernel_rfl
   have k5:(f171.name == "runtime.NumGoroutine")=false:=by kernel_rfl
   have k6:f171.body.isNone=false:=by kernel_rfl
   have x1:pS prog qX 3000 (.run (nU (rV f146))) [] ([yY p0]++List.replicate (f146.ntmps-1) (.val undef)) (S1 []) []=some (.fin .normal,[yY p0,.mp 0 0,.sl [] 0 .nl,.val undef,.val undef,.val undef,.val undef,.val undef,.val undef],⟨[(0,.cells (cS p0))],1,[],0,[]⟩,[],[]):=by kernel_rfl
   have x2:pS prog qX 3000 (.run (nU (sS (rV f146)))) [] [yY p0,.mp 0 0,.sl [] 0 .nl,.val undef,.val undef,.val undef,.val undef,.val undef,.val undef] ⟨[(0,.cells (cS p0))],1,[],0,[]⟩ [.no,.call [] [] 0 (ab true) (some true),.no]=some (.fin .normal,[yY p0,.mp 0 0,.sl [] 0 .nl,yY p0,ab true,ab false,.val undef,.val undef,.val undef],⟨[(0,.cells (cS p0))],1,[],0,[]⟩,[],[.bit true true,.call 52 [] [yY p0] (ab true) [] 0]):=by kernel_rfl
   have x3:(cR prog qX (wR (nU (sS (sS (rV f146))))) ((wR (nU (sS (sS (rV f146))))).toList.take 2) 0 [yY p0,.mp 0 0,.sl [] 0 .nl,yY p0,ab true,ab false,.val undef,.val undef,.val undef] ⟨[(0,.cells (cS p0))],1,[],0,[]⟩ [.no,.call [] [] 1 (.sl (zG yC l) l.length (.st 0 1)) none]).map Prod.snd=some ([yY p0,.mp 0 0,.sl [] 0 .nl,yY p0,ab true,ab false,yY p0,.sl (zG yC l) l.length (.st 0 1),.val undef],⟨[(0,.cells (cS p0))],1,[0],1,[]⟩,[],[.call 172 [] [yY p0,ai 6,ai 7] (.sl (zG yC l) l.length (.st 0 1)) [] 1]):=by kernel_rfl
   have x4:∀j:Nat->Value,(cR prog qX (wR (nU (sS (sS (rV f146))))) ((wR (nU (sS (sS (rV f146))))).toList.drop 3) 3 (eset (tells [] (mutEnv [] j [yY p0,.mp 0 0,.sl [] 0 .nl,yY p0,ab true,ab false,yY p0,.sl (zG yC l) l.length (.st 0 1),.val undef] 0)) (some 8) (.sl (zG yC (vG l)) (vG l).length .no)) (nP [] ⟨[(0,.cells (cS p0))],1,[0],1,[]⟩) []).map Prod.snd=some ([.val (j 0),.val (j 1),.sl (zG yC (vG l)) (vG l).length .no,.val (j 3),ab true,ab false,.val (j 6),.val (j 7),.sl (zG yC (vG l)) (vG l).length .no],⟨[],1,[],0,[]⟩,[],[]):=fun j=>by kernel_rfl
   have x5:∀j:Nat->Value,aB prog qX 0 f146 3000 (.run (sS (sS (sS (rV f146))))) [] [.val (j 0),.val (j 1),.sl (zG yC (vG l)) (vG l).length .no,.val (j 3),ab true,ab false,.val (j 6),.val (j 7),.sl (zG yC (vG l)) (vG l).length .no] ⟨[],1,[],0,[]⟩ [] [] [] [] false=some (.sl (zG yC (vG l)) (vG l).length .no,[],[.data (zG yC (vG l))]):=fun j=>by kernel_rfl
   refine tU.body func146 (by kernel_rfl) ?_
   refine Dv.seqP k0 ?_
   refine kD (Q:=_) wN mixed 3000 (.run (nU (rV f146))) [] _ _ _ _ _ _ _ _ x1 yJ.nil ?_
   refine Dv.seqP k1 ?_
   refine kD (Q:=_) wN mixed 3000 (.run (nU (sS (rV f146)))) [] _ _ _ _ _ _ _ _ x2 (yJ.cons (jI rfl) (yJ.cons (N3 (nC h2)) yJ.nil)) ?_
   refine Dv.seqP k2 ?_
   obtain⟨id,k7⟩:=zRK k3
   rw[k7]
   refine Dv.mut wN (na:=(0:Nat)) rfl 2 [] [] _ x3 (yJ.cons (N3 (zYf h5)) yJ.nil) k4 func171 k5 k6 (fun i X h=>by cases h) ?_ x4 yJ.nil ?_
   ·intro G0 W hB G w hE hR u hu
    refine(zBx hR (by rfl) hsz hu).mono ?_
    rintro e w' ⟨v,b,S,z1,z2,z3,z4,z5,z6⟩
    exact⟨v,b,S,z1,z2,z3,z4,z5,fun G' _ _ hS=>⟨z6 G' hS,fun q hq=>by cases hq⟩⟩
   ·intro j
    exact dV (na:=(0:Nat)) wN mixed (x5 j) (yJ.cons (qY (dI _)) yJ.nil) (by decide)
  ·replace h:=ifF h6 h
   cases h
 ·replace h:=ifF h3 h
  replace h:=Option.some.inj h
  subst h
  exact⟨tU.toFin wN mixed func146 (by kernel_rfl) 3000 [.no,.call [] [] 0 (ab r1) (some false),.no] [] [] [] false (by kernel_rfl) (yJ.cons (jI h3) (yJ.cons (N3 (nC h2)) (yJ.cons (qY (dI ([]:zZ))) yJ.nil))) (by decide),⟨⟨trivial,trivial,⟨trivial,dT _⟩,trivial⟩,trivial⟩,(fun _ h=>nomatch h),dI _,(fun _ h=>nomatch h)⟩
def zCB(qq:Nat)(p0:Tm)(p1 p2:Int):Option Bool:=
 bI qq p0>>=fun r1=>
 if r1 then
 zEO qq p0 0>>=fun r4=>
 if decide (r4>p1)then
 some false
 else
 zOo qq p0>>=fun r7=>
 if (r7.length:Int)==0 then
 some true
 else
 zW r7 (xL ((r7.length:Int)-1))>>=fun x10=>
 some (decide (x10<p2))
 else
 some false
theorem zSy:Qf 112 f112:=⟨func112,rfl⟩
theorem zET{qq p0 p1 p2 r}(h:zCB qq p0 p1 p2=some r):Ct 112 [] [yY p0,ai p1,ai p2] (ab r) [] 0:=⟨by
 unfold zCB at h
 obtain⟨r1,h2,h⟩:=zC h
 obtain⟨h3,h⟩|⟨h3,h⟩:=zU h
 obtain⟨r4,h5,h⟩:=zC h
 have k:=oC 2 [] (zYg h5)<|oK 1 [] h3 (nC h2) o0
 obtain⟨h6,h⟩|⟨h6,h⟩:=zU h
 cases h
 exact tF zSy 0 [] (oB 0 h6 k)
 obtain⟨r7,h8,h⟩:=zC h
 have k:=oC 1 [] (yAX h8)<|oB 0 h6 k
 obtain⟨h9,h⟩|⟨h9,h⟩:=zU h
 cases h
 exact tF zSy 0 [] (oB 1 h9 k)
 obtain⟨x10,h11,h⟩:=zC h
 cases h
 exact tF zSy 2 [] (oA 2 (nI (o:=.no) h11)<|oB 1 h9 k)
 cases h
 exact tF zSy 1 [] (oK 1 [] h3 (nC h2) o0),⟨⟨tv,tv,⟨tv,dT _⟩,tv⟩,tv,tv,tv⟩,zB,tv,zB⟩
def zCC(qq:Nat)(p0:Tm):Option zZ:=
 (bI qq p0)>>=fun r1=>
 if r1=true then
  (zER qq p0 8 8)>>=fun r4=>
  if decide (List.length r4<4611686018427387904)=true then some (vG r4)else none
 else
  some []
theorem zOn{qq:Nat}{p0:Tm}{r:zZ}(h:zCC qq p0=some r):CT prog 134 [] [yY p0] (.sl (zG yC r) r.length .no) [] 0:=by
 unfold zCC at h
 obtain⟨r1,h2,h⟩:=zC h
 rcases w5 r1 with h3|h3
 ·replace h:=ifT h3 h
  obtain⟨l,h5,h⟩:=zC h
  rcases w5 (decide (List.length l<4611686018427387904))with h6|h6
  ·replace h:=ifT h6 h
   replace h:=Option.some.inj h
   subst h
   subst h3
   have hsz:List.length l<4611686018427387904:=by simpa using h6
   refine⟨?_,⟨⟨trivial,trivial,⟨trivial,dT _⟩,trivial⟩,trivial⟩,(fun _ h=>nomatch h),dI _,(fun _ h=>nomatch h)⟩
   have k0:knd (rV f134)=1:=by kernel_rfl
   have k1:knd (sS (rV f134))=1:=by kernel_rfl
   have k2:knd (sS (sS (rV f134)))=1:=by kernel_rfl
   have k3:D4 (nU (sS (sS (rV f134))))=true:=by kernel_rfl
   have k4:zCj (wR (nU (sS (sS (rV f134)))))[2]? = some (some 8,171,#[.tmp 7]):=by kernel_rfl
   have k5:(f171.name == "runtime.NumGoroutine")=false:=by kernel_rfl
   have k6:f171.body.isNone=false:=by kernel_rfl
   have x1:pS prog qX 3000 (.run (nU (rV f134))) [] ([yY p0]++List.replicate (f134.ntmps-1) (.val undef)) (S1 []) []=some (.fin .normal,[yY p0,.mp 0 0,.sl [] 0 .nl,.val undef,.val undef,.val undef,.val undef,.val undef,.val undef],⟨[(0,.cells (cS p0))],1,[],0,[]⟩,[],[]):=by kernel_rfl
   have x2:pS prog qX 3000 (.run (nU (sS (rV f134)))) [] [yY p0,.mp 0 0,.sl [] 0 .nl,.val undef,.val undef,.val undef,.val undef,.val undef,.val undef] ⟨[(0,.cells (cS p0))],1,[],0,[]⟩ [.no,.call [] [] 0 (ab true) (some true),.no]=some (.fin .normal,[yY p0,.mp 0 0,.sl [] 0 .nl,yY p0,ab true,ab false,.val undef,.val undef,.val undef],⟨[(0,.cells (cS p0))],1,[],0,[]⟩,[],[.bit true true,.call 52 [] [yY p0] (ab true) [] 0]):=by kernel_rfl
   have x3:(cR prog qX (wR (nU (sS (sS (rV f134))))) ((wR (nU (sS (sS (rV f134))))).toList.take 2) 0 [yY p0,.mp 0 0,.sl [] 0 .nl,yY p0,ab true,ab false,.val undef,.val undef,.val undef] ⟨[(0,.cells (cS p0))],1,[],0,[]⟩ [.no,.call [] [] 1 (.sl (zG yC l) l.length (.st 0 1)) none]).map Prod.snd=some ([yY p0,.mp 0 0,.sl [] 0 .nl,yY p0,ab true,ab false,yY p0,.sl (zG yC l) l.length (.st 0 1),.val undef],⟨[(0,.cells (cS p0))],1,[0],1,[]⟩,[],[.call 172 [] [yY p0,ai 8,ai 8] (.sl (zG yC l) l.length (.st 0 1)) [] 1]):=by kernel_rfl
   have x4:∀j:Nat->Value,(cR prog qX (wR (nU (sS (sS (rV f134))))) ((wR (nU (sS (sS (rV f134))))).toList.drop 3) 3 (eset (tells [] (mutEnv [] j [yY p0,.mp 0 0,.sl [] 0 .nl,yY p0,ab true,ab false,yY p0,.sl (zG yC l) l.length (.st 0 1),.val undef] 0)) (some 8) (.sl (zG yC (vG l)) (vG l).length .no)) (nP [] ⟨[(0,.cells (cS p0))],1,[0],1,[]⟩) []).map Prod.snd=some ([.val (j 0),.val (j 1),.sl (zG yC (vG l)) (vG l).length .no,.val (j 3),ab true,ab false,.val (j 6),.val (j 7),.sl (zG yC (vG l)) (vG l).length .no],⟨[],1,[],0,[]⟩,[],[]):=fun j=>by kernel_rfl
   have x5:∀j:Nat->Value,aB prog qX 0 f134 3000 (.run (sS (sS (sS (rV f134))))) [] [.val (j 0),.val (j 1),.sl (zG yC (vG l)) (vG l).length .no,.val (j 3),ab true,ab false,.val (j 6),.val (j 7),.sl (zG yC (vG l)) (vG l).length .no] ⟨[],1,[],0,[]⟩ [] [] [] [] false=some (.sl (zG yC (vG l)) (vG l).length .no,[],[.data (zG yC (vG l))]):=fun j=>by kernel_rfl
   refine tU.body func134 (by kernel_rfl) ?_
   refine Dv.seqP k0 ?_
   refine kD (Q:=_) wN mixed 3000 (.run (nU (rV f134))) [] _ _ _ _ _ _ _ _ x1 yJ.nil ?_
   refine Dv.seqP k1 ?_
   refine kD (Q:=_) wN mixed 3000 (.run (nU (sS (rV f134)))) [] _ _ _ _ _ _ _ _ x2 (yJ.cons (jI rfl) (yJ.cons (N3 (nC h2)) yJ.nil)) ?_
   refine Dv.seqP k2 ?_
   obtain⟨id,k7⟩:=zRK k3
   rw[k7]
   refine Dv.mut wN (na:=(0:Nat)) rfl 2 [] [] _ x3 (yJ.cons (N3 (zYf h5)) yJ.nil) k4 func171 k5 k6 (fun i X h=>by cases h) ?_ x4 yJ.nil ?_
   ·intro G0 W hB G w hE hR u hu
    refine(zBx hR (by rfl) hsz hu).mono ?_
    rintro e w' ⟨v,b,S,z1,z2,z3,z4,z5,z6⟩
    exact⟨v,b,S,z1,z2,z3,z4,z5,fun G' _ _ hS=>⟨z6 G' hS,fun q hq=>by cases hq⟩⟩
   ·intro j
    exact dV (na:=(0:Nat)) wN mixed (x5 j) (yJ.cons (qY (dI _)) yJ.nil) (by decide)
  ·replace h:=ifF h6 h
   cases h
 ·replace h:=ifF h3 h
  replace h:=Option.some.inj h
  subst h
  exact⟨tU.toFin wN mixed func134 (by kernel_rfl) 3000 [.no,.call [] [] 0 (ab r1) (some false),.no] [] [] [] false (by kernel_rfl) (yJ.cons (jI h3) (yJ.cons (N3 (nC h2)) (yJ.cons (qY (dI ([]:zZ))) yJ.nil))) (by decide),⟨⟨trivial,trivial,⟨trivial,dT _⟩,trivial⟩,trivial⟩,(fun _ h=>nomatch h),dI _,(fun _ h=>nomatch h)⟩
theorem zCD(a b:Int):iG a b=max a b:=by unfold iG;split<;>omega
theorem wF{k n:Int}{l:List Tm}(h:xB (.mk k n l)=true):rJ (.mk k n l)=true∧wZ l=true:=by
 rw[xB]at h;simpa using h
theorem wB{t:Tm}{l:List Tm}(h:wZ (t::l)=true):xB t=true∧wZ l=true:=by
 rw[wZ]at h;simpa using h
theorem kV{k n:Int}{l:List Tm}(h:rJ (.mk k n l)=true):0≤n∧n≤1048576∧1≤k∧k≤8∧l.length≤2:=by
 have:=vN h
 exact⟨this.2.2.1,this.2.2.2.1,this.1,this.2.1,this.2.2.2.2.1⟩
mutual
theorem qJ:∀t:Tm,xB t=true->t.Ok
 | .mk k n l,h=>by
  have h1:=wF h
  rw[Tm.Ok]
  exact⟨by have:=(kV h1.1).2.2.2.2;omega,zEU l h1.2⟩
theorem zEU:∀l:List Tm,wZ l=true->mX l
 | [],_=>by rw[mX];trivial
 |t::l,h=>by
  have:=wB h
  rw[mX]
  exact⟨qJ t this.1,zEU l this.2⟩
end
mutual
theorem zSx:∀(t:Tm) (b:Int),0≤mY t b
 | .mk k n l,b=>by
  rw[mY];split
  ·omega
  ·exact zCE l k 0 b
theorem zCE:∀(l:List Tm) (k:Int) (i:Nat) (b:Int),0≤kU l k i b
 | [],k,i,b=>by rw[kU];omega
 |t::l,k,i,b=>by rw[kU];have:=zSx t (b+cV k i);omega
end
theorem zOm(t:Tm)(i:Nat):zJ (fun q=>zOp q t (i:Int)) (cV t.k i):=by
 refine zJ.mk fun q=>?_
 simp only[zOp,cV]
 by_cases h1:i=1
 ·subst h1;simp;by_cases h3:t.k=3<;>by_cases h4:t.k=4<;>simp[h3,h4]
 ·have:¬((i:Int)=1):=by omega
  simp[h1,this]
theorem zCF(k:Int)(i:Nat):0≤cV k i∧cV k i≤1:=by unfold cV;split<;>omega
mutual
theorem w7:∀(t:Tm) (b:Int),xB t=true->0≤b->b+t.high≤4611686018427387904->zJ (fun q=>zEO q t b) (mY t b)
 | .mk k n l,b,hg,h0,h1=>by
  refine zJ.succ ?_
  simp only[zEO,Tm.k,Tm.n]
  have hh:=wF hg
  have hn:=kV hh.1
  rw[mY]
  by_cases hk:k=1
  ·rw[if_pos hk]
   rw[Tm.high]at h1
   refine zJ.ifT (by simpa using hk) (zJ.ret.eq ?_)
   rw[yW (x:=n+1) (by omega) (by omega),yW (by omega) (by omega),zCD]
  ·rw[if_neg hk]
   refine zJ.ifF (by simpa using hk) ?_
   rw[Tm.high]at h1
   exact(zBr l (.mk k n l) 0 b 0 rfl (by have:=hn.2.2.2.2;simp only[Tm.sub];omega) hh.2 h0 (by omega) (by omega)).eq (by have:=zCE l k 0 b;simp only[Tm.k];omega)
theorem zBr:∀(l:List Tm) (p:Tm) (v:Nat) (b m:Int),p.sub.drop v=l->p.sub.length<9223372036854775808->wZ l=true->0≤b->0≤m->b+1+vQ l≤4611686018427387904->zJ (fun q=>iR q p b (v:Int) m) (max m (kU l p.k v b))
 | [],p,v,b,m,hd,hl,ho,h0,hm,h1=>by
  refine zJ.succ ?_
  simp only[iR]
  rw[kU]
  exact zJ.ifF (yH hd) (zJ.ret.eq (by omega))
 |t::l,p,v,b,m,hd,hl,ho,h0,hm,h1=>by
  refine zJ.succ ?_
  simp only[iR]
  have hg:=wB ho
  have hu:=zCF p.k v
  rw[vQ]at h1
  refine zJ.ifT (yG hd) (zJ.pure (yD hd) ((zOm p v).bind ?_))
  rw[yW (x:=b+cV p.k v) (by omega) (by omega)]
  refine(w7 t (b+cV p.k v) hg.1 (by omega) (by omega)).bind ?_
  rw[yA v (by have:=yL hd;omega),zCD]
  refine(zBr l p (v+1) b _ (zY hd) hl hg.2 h0 (by omega) (by omega)).eq ?_
  rw[kU];omega
end
mutual
theorem mE:∀(t:Tm) (a b:Int),(qL t a b).length≤t.nodes
 | .mk k n l,a,b=>by
  rw[qL,Tm.nodes]
  have:=zEV l a b
  split<;>simp<;>omega
theorem zEV:∀(l:List Tm) (a b:Int),(E2 l a b).length≤yP l
 | [],a,b=>by rw[E2,yP];simp
 |t::l,a,b=>by
  rw[E2,yP]
  have:=mE t a b
  have:=zEV l a b
  simp;omega
end
mutual
theorem aJ:∀(t:Tm) (a b:Int),t.Ok->t.nodes≤8192->zJ (fun q=>zER q t a b) (qL t a b)
 | .mk k n l,a,b,ho,hn=>by
  refine zJ.succ ?_
  simp only[zER,Tm.k,Tm.n]
  rw[qL]
  rw[Tm.nodes]at hn
  by_cases ha:k=a
  ·refine zJ.ifT (by simpa using ha) (zJ.pure (yK (by simp)) ?_)
   rw[if_pos (.inl ha)]
   exact kF l (.mk k n l) 0 a b [n] rfl ho.1 ho.2 (by simp;omega)
  ·refine zJ.ifF (by simpa using ha) ?_
   by_cases hb:k=b
   ·refine zJ.ifT (by simpa using hb) (zJ.pure (yK (by simp)) ?_)
    rw[if_pos (.inr hb)]
    exact kF l (.mk k n l) 0 a b [n] rfl ho.1 ho.2 (by simp;omega)
   ·refine zJ.ifF (by simpa using hb) ?_
    rw[if_neg (by simp[ha,hb])]
    exact kF l (.mk k n l) 0 a b [] rfl ho.1 ho.2 (by simp;omega)
theorem kF:∀(l:List Tm) (p:Tm) (v:Nat) (a b:Int) (m:List Int),p.sub.drop v=l->p.sub.length<9223372036854775808->mX l->m.length+yP l≤8192->zJ (fun q=>mD q p a b (v:Int) m) (m++E2 l a b)
 | [],p,v,a,b,m,hd,hl,ho,hn=>by
  refine zJ.succ ?_
  simp only[mD]
  rw[E2]
  exact zJ.ifF (yH hd) (zJ.ret.eq (by simp))
 |t::l,p,v,a,b,m,hd,hl,ho,hn=>by
  refine zJ.succ ?_
  simp only[mD]
  rw[yP]at hn
  have hc:=mE t a b
  refine zJ.ifT (yG hd) (zJ.pure (yD hd) ((aJ t a b ho.1 (by omega)).bind (zJ.pure (yK (by omega)) ?_)))
  rw[yA v (by have:=yL hd;omega)]
  refine(kF l p (v+1) a b _ (zY hd) hl ho.2 (by simp;omega)).eq ?_
  rw[E2];simp
end
theorem zO{t:Tm}(h:zH t=true):t.nodes≤8192∧t.high≤128∧xB t=true:=by
 unfold zH at h;simp at h;exact⟨h.1.1,h.1.2,h.2⟩
def eG(t:Tm)(a b:Int):List Int:=if zH t=true then vG (qL t a b)else []
theorem eH(t:Tm)(ho:t.Ok):zJ (fun q=>zCC q t) (eG t 8 8):=by
 simp only[zCC]
 refine(xN t ho).bind ?_
 unfold eG
 by_cases h:zH t=true
 ·have hs:=zO h
  have:=mE t 8 8
  rw[if_pos h]
  refine zJ.ifT h ((aJ t 8 8 ho hs.1).bind (zJ.mk fun q=>?_))
  rw[if_pos (by simp;omega)]
 ·rw[if_neg h];exact zJ.ifF (by simpa using h) zJ.ret
theorem zHE(t:Tm)(ho:t.Ok):zJ (fun q=>zOo q t) (eG t 6 7):=by
 simp only[zOo]
 refine(xN t ho).bind ?_
 unfold eG
 by_cases h:zH t=true
 ·have hs:=zO h
  have:=mE t 6 7
  rw[if_pos h]
  refine zJ.ifT h ((aJ t 6 7 ho hs.1).bind (zJ.mk fun q=>?_))
  rw[if_pos (by simp;omega)]
 ·rw[if_neg h];exact zJ.ifF (by simpa using h) zJ.ret
theorem w8(x:Int):∀l:List Int,x∈nG l↔x∈l
 | []=>by simp[nG]
 | [y]=>by simp[nG]
 |y::z::l=>by
  rw[oJ]
  have:=w8 x (z::l)
  split
  ·subst_vars;rw[this];simp
  ·rw[List.mem_cons,this];simp
theorem nJ(x:Int)(l:List Int):x∈vG l↔x∈l:=by
 unfold vG
 rw[w8]
 exact(iJ l).mem_iff
theorem S3:∀l:List Int,l.Pairwise (· ≤ ·)->(nG l).Pairwise (· ≤ ·)
 | [],_=>by simp[nG]
 | [y],_=>by simp[nG]
 |y::z::l,h=>by
  rw[oJ]
  have h2:=S3 (z::l) (List.pairwise_cons.1 h).2
  split
  ·exact h2
  ·refine List.pairwise_cons.2 ⟨fun w hw=>?_,h2⟩
   exact(List.pairwise_cons.1 h).1 w ((w8 w _).1 hw)
theorem zEW(l:List Int):(vG l).Pairwise (· ≤ ·):=S3 _ (iK l)
theorem zEX:∀(l:List Int) (h:l≠[]),l.Pairwise (· ≤ ·)->∀x∈l,x≤l.getLast h
 | [y],_,_,x,hx=>by simp at hx;simp[hx]
 |y::z::l,_,hp,x,hx=>by
  rw[List.getLast_cons (by simp)]
  have h2:=List.pairwise_cons.1 hp
  rcases List.mem_cons.1 hx with rfl|hx
  ·exact h2.1 _ (List.getLast_mem _)
  ·exact zEX (z::l) (by simp) h2.2 x hx
def rC(t:Tm)(f n:Int):Bool:=zH t&&decide (mY t 0≤f)&&(qL t 6 7).all fun x=>decide (x<n)
theorem eI(t:Tm)(f n:Int)(ho:t.Ok):zJ (fun q=>zCB q t f n) (rC t f n):=by
 simp only[zCB]
 refine(xN t ho).bind ?_
 unfold rC
 by_cases h:zH t=true
 ·have hs:=zO h
  have hlen:=mE t 6 7
  refine zJ.ifT h ((w7 t 0 hs.2.2 (by omega) (by omega)).bind ?_)
  rw[h]
  by_cases h2:mY t 0>f
  ·exact zJ.ifT (by simpa using h2) (zJ.ret.eq (by simp;omega))
  ·refine zJ.ifF (by simpa using h2) ((zHE t ho).bind ?_)
   have h2':decide (mY t 0≤f)=true:=by simp;omega
   rw[h2']
   unfold eG
   rw[if_pos h]
   have hr:=mV (qL t 6 7)
   by_cases h3:vG (qL t 6 7)=[]
   ·refine zJ.ifT (by rw[h3];rfl) (zJ.ret.eq ?_)
    symm
    simp only[Bool.true_and,List.all_eq_true]
    intro x hx
    rw[←nJ,h3]at hx;cases hx
   ·have hpos:0<(vG (qL t 6 7)).length:=List.length_pos_iff.2 h3
    refine zJ.ifF (by simp;omega) (zJ.pure (a:=(vG (qL t 6 7)).getLast h3) ?_ (zJ.ret.eq ?_))
    ·rw[yW (by omega) (by omega)]
     unfold zW
     rw[if_pos (by omega),List.getLast_eq_getElem,show ((vG (qL t 6 7)).length-1:Int).toNat=(vG (qL t 6 7)).length-1 by omega]
     exact List.getElem?_eq_getElem _
    ·have hm:=zEX _ h3 (zEW _)
     rw[Bool.eq_iff_iff]
     simp only[decide_eq_true_eq,Bool.true_and,List.all_eq_true]
     constructor
     ·intro h4 x hx
      have:=hm x ((nJ x _).2 hx)
      omega
     ·intro h4
      exact h4 _ ((nJ _ _).1 (List.getLast_mem h3))
 ·exact zJ.ifF (by simpa using h) (zJ.ret.eq (by simp[h]))
abbrev kAP (f:Func):Code:=inn (inn (nU (sS (sS (sS (rV f))))))
abbrev U3 (f:Func):Code:=sS (sS (sS (sS (rV f))))
abbrev s4P (j:Nat->Value) (ls:List L3) (r:List (Nat×AV)):List AV:=sp j 35 0 ((1,.mp 0 0)::(2,.mp 1 0)::(4,.sl (zG c3 ls) ls.length (.st 0 3))::(5,.mp 2 0)::r)
abbrev sSP (a b:List AV):xA:=⟨[(0,.cells a),(1,.cells [ai 0,ai 0,.sl [] 0 .nl]),(2,.cells b)],3,[0],1,[]⟩
abbrev lt3 (x:Tm) (q:Option Addr×Nat×Nat):List AV:=[.val (.int .i64 x.k),.val (.int .i64 x.n),.val (.slice q.1 q.2.1 q.2.2)]
abbrev w9 (G0:Gh):Nb:=⟨0,fun G=>G=G0⟩
abbrev u5 (x:Tm) (vs:List Value) (o:qT):List AV:=[ai x.k,ai x.n,.sl (vs.map .val) x.sub.length o]
theorem yAY(j:Nat->Value)(ls:List L3)(x:Tm)(u:List AV)(vs:List Value)(o:qT):pS prog qX 3000 (.run (kAP f123)) [] (s4P j ls []) (sSP u (u5 x vs o)) [.no,.bit false]=some (.fin (.exit 0),(s4P j ls [(7,.mp 2 0),(8,ai x.k),(9,ab false),(10,ab false),(11,.val undef),(12,.val undef),(13,.val undef),(14,.val undef),(15,ab false)]),(sSP u (u5 x vs o)),[],[.bit (x.k==5) false]):=by kernel_rfl
theorem yAZ(j:Nat->Value)(ls:List L3)(x:Tm)(u:List AV)(vs:List Value)(o:qT):(cR prog qX (wR (nU (U3 f123))) ((wR (nU (U3 f123))).toList.take 1) 0 (s4P j ls [(7,.mp 2 0),(8,ai x.k),(9,ab false),(10,ab false),(11,.val undef),(12,.val undef),(13,.val undef),(14,.val undef),(15,ab false)]) (sSP u (u5 x vs o)) []).map Prod.snd=some ((s4P j ls [(7,.mp 2 0),(8,ai x.k),(9,ab false),(10,ab false),(11,.val undef),(12,.val undef),(13,.val undef),(14,.val undef),(15,ab false),(31,.sl (zG c3 ls) ls.length (.st 0 3))]),(sSP u (u5 x vs o)),[],[]):=by kernel_rfl
theorem yBz(j i:Nat->Value)(ls:List L3)(l:yM)(x:Tm)(u:List AV)(vs:List Value)(o:qT):(cR prog qX (wR (nU (U3 f123))) ((wR (nU (U3 f123))).toList.drop 2) 2 (eset (tells [(4,.sl (zG zD l.reverse) l.length .no)] (mutEnv [1,2] i (s4P j ls [(7,.mp 2 0),(8,ai x.k),(9,ab false),(10,ab false),(11,.val undef),(12,.val undef),(13,.val undef),(14,.val undef),(15,ab false),(31,.sl (zG c3 ls) ls.length (.st 0 3))]) 0)) (some 32) (.tup [])) (nP [1,2] (sSP u (u5 x vs o))) []).map Prod.snd=some ((sp j 35 0 [(1,.val (i 1)),(2,.mp 1 0),(4,.sl (zG zD l.reverse) l.length .no),(5,.mp 2 0),(7,.mp 2 0),(8,ai x.k),(9,ab false),(10,ab false),(11,.val undef),(12,.val undef),(13,.val undef),(14,.val undef),(15,ab false),(31,.val (i 31)),(32,.tup [])]),⟨[(1,.cells [ai 0,ai 0,.sl [] 0 .nl]),(2,.cells (u5 x vs o))],3,[],0,[]⟩,[],[]):=by kernel_rfl
theorem yBy(j i:Nat->Value)(l:yM)(x:Tm)(vs:List Value)(o:qT):aB prog qX 0 f123 3000 (.run (sS (U3 f123))) [] (sp j 35 0 [(1,.val (i 1)),(2,.mp 1 0),(4,.sl (zG zD l.reverse) l.length .no),(5,.mp 2 0),(7,.mp 2 0),(8,ai x.k),(9,ab false),(10,ab false),(11,.val undef),(12,.val undef),(13,.val undef),(14,.val undef),(15,ab false),(31,.val (i 31)),(32,.tup [])]) ⟨[(1,.cells [ai 0,ai 0,.sl [] 0 .nl]),(2,.cells (u5 x vs o))],3,[],0,[]⟩ [.no,.no] [] [] [] false=some (.tup [.agg [ai x.k,ai x.n,.sl (vs.map .val) x.sub.length .no],.sl (zG zD l.reverse) l.length .no],[],[.data (vs.map .val),.data (zG zD l.reverse)]):=by kernel_rfl
theorem yBx(j:Nat->Value)(ls:List L3)(x:Tm)(u:List AV)(vs:List Value)(o:qT):pS prog qX 3000 (.run (kAP f123)) [] (s4P j ls []) (sSP u (u5 x vs o)) [.no,.bit true,.no,.no,.bit false]=some (.fin (.exit 0),(s4P j ls [(7,.mp 2 0),(8,ai x.k),(9,ab true),(10,ab true),(11,.mp 2 2),(12,.sl (vs.map .val) x.sub.length o),(13,ai (x.sub.length:Int)),(14,ab false),(15,ab false)]),(sSP u (u5 x vs o)),[],[.bit (x.k==5) true,.bit ((x.sub.length:Int)==2) false]):=by kernel_rfl
theorem yBw(j:Nat->Value)(ls:List L3)(x:Tm)(u:List AV)(vs:List Value)(o:qT):(cR prog qX (wR (nU (U3 f123))) ((wR (nU (U3 f123))).toList.take 1) 0 (s4P j ls [(7,.mp 2 0),(8,ai x.k),(9,ab true),(10,ab true),(11,.mp 2 2),(12,.sl (vs.map .val) x.sub.length o),(13,ai (x.sub.length:Int)),(14,ab false),(15,ab false)]) (sSP u (u5 x vs o)) []).map Prod.snd=some ((s4P j ls [(7,.mp 2 0),(8,ai x.k),(9,ab true),(10,ab true),(11,.mp 2 2),(12,.sl (vs.map .val) x.sub.length o),(13,ai (x.sub.length:Int)),(14,ab false),(15,ab false),(31,.sl (zG c3 ls) ls.length (.st 0 3))]),(sSP u (u5 x vs o)),[],[]):=by kernel_rfl
theorem yBv(j i:Nat->Value)(ls:List L3)(l:yM)(x:Tm)(u:List AV)(vs:List Value)(o:qT):(cR prog qX (wR (nU (U3 f123))) ((wR (nU (U3 f123))).toList.drop 2) 2 (eset (tells [(4,.sl (zG zD l.reverse) l.length .no)] (mutEnv [1,2] i (s4P j ls [(7,.mp 2 0),(8,ai x.k),(9,ab true),(10,ab true),(11,.mp 2 2),(12,.sl (vs.map .val) x.sub.length o),(13,ai (x.sub.length:Int)),(14,ab false),(15,ab false),(31,.sl (zG c3 ls) ls.length (.st 0 3))]) 0)) (some 32) (.tup [])) (nP [1,2] (sSP u (u5 x vs o))) []).map Prod.snd=some ((sp j 35 0 [(1,.val (i 1)),(2,.mp 1 0),(4,.sl (zG zD l.reverse) l.length .no),(5,.mp 2 0),(7,.mp 2 0),(8,ai x.k),(9,ab true),(10,ab true),(11,.mp 2 2),(12,.val (i 12)),(13,ai (x.sub.length:Int)),(14,ab false),(15,ab false),(31,.val (i 31)),(32,.tup [])]),⟨[(1,.cells [ai 0,ai 0,.sl [] 0 .nl]),(2,.cells (u5 x vs o))],3,[],0,[]⟩,[],[]):=by kernel_rfl
theorem yBu(j i:Nat->Value)(l:yM)(x:Tm)(vs:List Value)(o:qT):aB prog qX 0 f123 3000 (.run (sS (U3 f123))) [] (sp j 35 0 [(1,.val (i 1)),(2,.mp 1 0),(4,.sl (zG zD l.reverse) l.length .no),(5,.mp 2 0),(7,.mp 2 0),(8,ai x.k),(9,ab true),(10,ab true),(11,.mp 2 2),(12,.val (i 12)),(13,ai (x.sub.length:Int)),(14,ab false),(15,ab false),(31,.val (i 31)),(32,.tup [])]) ⟨[(1,.cells [ai 0,ai 0,.sl [] 0 .nl]),(2,.cells (u5 x vs o))],3,[],0,[]⟩ [.no,.no] [] [] [] false=some (.tup [.agg [ai x.k,ai x.n,.sl (vs.map .val) x.sub.length .no],.sl (zG zD l.reverse) l.length .no],[],[.data (vs.map .val),.data (zG zD l.reverse)]):=by kernel_rfl
theorem spC(j:Nat->Value)(p0:Tm)(q0:Option Addr×Nat×Nat)(ls:List L3)(x:Tm)(vs:List Value)(o:qT):aB prog qX 0 f123 3000 (.run (kAP f123)) [.loop (kAP f123),.blk 0,.seq (U3 f123)] (s4P j ls []) (sSP (lt3 p0 q0) (u5 x vs o)) [.no,.bit true,.no,.no,.bit true,.no,.bit true,.no,.no] [] [] [] false=some (.tup [.agg (lt3 p0 q0),.sl [] 0 .no],[],[.bit (x.k==5) true,.bit ((x.sub.length:Int)==2) true,.bit (decide ((ls.length:Int)≥8192)) true,.data []]):=by kernel_rfl
theorem spD(i j:Nat->Value)(k n:Int)(a b:Tm)(qa qb:Option Addr×Nat×Nat)(u0 u1 u2:Value)(ls ls2:List L3)(o:qT):eC prog qX 0 3000 (.run (kAP f123)) [.loop (kAP f123),.blk 0,.seq (U3 f123)] (s4P j ls []) (sSP [.val u0,.val u1,.val u2] [ai k,ai n,.sl [.val (.int .i64 a.k),.val (.int .i64 a.n),.val (.slice qa.1 qa.2.1 qa.2.2),.val (.int .i64 b.k),.val (.int .i64 b.n),.val (.slice qb.1 qb.2.1 qb.2.2)] 2 o]) [.no,.bit true,.no,.no,.bit true,.no,.bit false,.no,.no,.no,.no,.app (zG c3 ls2) ls2.length 3 false,.no,.no,.no,.no] [] [0,1,2] [1] [1,2,4,5] i=some (inn (inn (nU (sS (sS (sS (rV f123)))))),[.blk 0,.seq (U3 f123)],(s4P i ls2 []),(sSP [.val u0,.val u1,.val u2] [.val (.int .i64 a.k),.val (.int .i64 a.n),.val (.slice qa.1 qa.2.1 qa.2.2)]),[.bit (k==5) true,.bit ((2:Int)==2) true,.bit (decide ((ls.length:Int)≥8192)) false,.app 24 24 (zG c3 ls) [.val (.int .i64 b.k),.val (.int .i64 b.n),.val (.slice qb.1 qb.2.1 qb.2.2)] (zG c3 ls2) ls.length 1 ls2.length 3 false,.data [],.data (zG c3 ls2)]):=by kernel_rfl
theorem spE(i:Nat->Value)(u0 u1:Int)(u2:Option Addr×Nat×Nat):eC prog qX 0 3000 (.run (rV f123)) [] ([.agg [.val (.int .i64 u0),.val (.int .i64 u1),.val (.slice u2.1 u2.2.1 u2.2.2)]]++List.replicate (f123.ntmps-1) (.val undef)) (S1 []) [.no,.no] [(none,4,3)] [0,1,2] [0] [1,2,4,5] i=some (inn (inn (nU (sS (sS (sS (rV f123)))))),[.blk 0,.seq (U3 f123)],(sp i 35 0 [(1,.mp 0 0),(2,.mp 1 0),(4,.sl [] 0 (.st 0 3)),(5,.mp 2 0)]),⟨[(0,.cells [.val (.int .i64 u0),.val (.int .i64 u1),.val (.slice u2.1 u2.2.1 u2.2.2)]),(1,.cells [ai 0,ai 0,.sl [] 0 .nl]),(2,.cells [.val (.int .i64 u0),.val (.int .i64 u1),.val (.slice u2.1 u2.2.1 u2.2.2)])],3,[0],1,[]⟩,[.data [],.data []]):=by kernel_rfl
def sv(x:Tm)(q:Option Addr×Nat×Nat):List Value:=[.int .i64 x.k,.int .i64 x.n,.slice q.1 q.2.1 q.2.2]
def sv3(x:Tm)(q:Option Addr×Nat×Nat):L3:=⟨.int .i64 x.k,.int .i64 x.n,.slice q.1 q.2.1 q.2.2,rfl,rfl,rfl⟩
theorem VL.split{G:Gh}{w:World}:∀(cs bs:List AV) (us:List Value),VL G w (cs++bs) us->∃u1 u2,us=u1++u2∧VL G w cs u1∧VL G w bs u2
 | [],bs,us,h=>⟨[],us,rfl,by simp only[VL],h⟩
 |a::cs,bs,[],h=>by simp only[List.cons_append,VL]at h
 |a::cs,bs,u::us,h=>by
  simp only[List.cons_append,VL]at h
  obtain⟨u1,u2,rfl,h1,h2⟩:=VL.split cs bs us h.2
  exact⟨u::u1,u2,rfl,by simp only[VL];exact⟨h.1,h1⟩,h2⟩
theorem zOk{G:Gh}{w:World}{x:Tm}{us:List Value}(h:VL G w (cS x) us):∃q,us=sv x q:=by
 unfold cS at h
 match us,h with
 | [],h=>simp only[VL]at h
 | [_],h=>simp only[VL,and_false]at h
 | [_,_],h=>simp only[VL,and_false]at h
 | [u0,u1,u2],h=>
  simp only[VL,and_true]at h
  obtain⟨h0,h1,h2⟩:=h
  simp only[V]at h0 h1 h2
  obtain⟨cap,_,⟨_,_,_,h,_⟩|⟨b,off,h,_⟩⟩:=h2
  ·obtain⟨p,h⟩:∃p,u2 = .slice p 0 0:=⟨_,h⟩
   exact⟨(p,0,0),by simp[sv,h0,h1,h]⟩
  ·exact⟨(some ⟨b,off,none⟩,x.sub.length,cap),by simp[sv,h0,h1,h]⟩
 |_::_::_::_::_,h=>simp only[VL,and_false]at h
theorem VC.lit{G G':Gh}{w w':World}(b:Nat)(hL:∀o,G.L b o->G'.L b o)(hc:∀o,w'.cell? ⟨b,o,none⟩=w.cell? ⟨b,o,none⟩):∀(vs:List Value) (off:Nat),VC G w (vs.map .val) b off->VC G' w' (vs.map .val) b off
 | [],_,_=>by simp only[List.map_nil,VC]
 |v::vs,off,h=>by
  simp only[List.map_cons,VC]at h ⊢
  obtain⟨h1,⟨u,h2,h3⟩,h4⟩:=h
  exact⟨hL _ h1,⟨u,(hc _).trans h2,by simpa only[V]using h3⟩,VC.lit b hL hc vs (off+1) h4⟩
theorem zYe{G:Gh}{w:World}{vs:List Value}{n:Nat}{o:qT}{u:Value}{es:List AV}(h:V G w (.sl (vs.map .val) n o) u)(he:VL G w es vs):V G w (.sl es n .no) u:=by
 simp only[V]at h ⊢
 obtain⟨cap,hc,⟨h1,h2,h3,h4,_⟩|⟨b,off,h1,h2,_⟩⟩:=h
 ·have hv:vs=[]:=by simpa using h1
  subst hv
  have:=VL.length _ _ he
  exact⟨cap,hc,.inl ⟨List.length_eq_zero_iff.1 this.symm,h2,h3,h4,trivial⟩⟩
 ·refine⟨cap,hc,.inr ⟨b,off,h1,?_,trivial⟩⟩
  obtain⟨us,q1,q2⟩:=VC.cells _ _ _ h2
  have:=VL.litEq _ _ q1
  subst this
  exact VC.of_cells es us b off he (fun i hi=>(VC.cell _ _ _ i (.val us[i]) h2 (by simp[hi])).1) q2
theorem zSw{na:Nb}{G0:Gh}{w:World}(hB:iE na G0){x:Tm}{q:Option Addr×Nat×Nat}(h:VL G0 w (cS x) (sv x q)) :
  ∃(vs:List Value) (o:qT),VL G0 w (zG zD x.sub) vs∧VL G0 w (u5 x vs o) (sv x q)∧yO.lit (.cells (u5 x vs o)):=by
 unfold cS sv at h
 simp only[VL,and_true]at h
 obtain⟨_,_,h2⟩:=h
 have key:∃(vs:List Value) (o:qT),VL G0 w (zG zD x.sub) vs∧V G0 w (.sl (vs.map .val) x.sub.length o) (.slice q.1 q.2.1 q.2.2) ∧
   ∀(G G':Gh) (w w':World) (u:Value),G'.F=G.F->(∀b o,G.F b->G.L b o->G'.L b o)->(∀b o,G.F b->w'.cell? ⟨b,o,none⟩=w.cell? ⟨b,o,none⟩)->V G w (.sl (vs.map .val) x.sub.length o) u->V G' w' (.sl (vs.map .val) x.sub.length o) u:=by
  simp only[V]at h2
  obtain⟨cap,hc,⟨h1,h2,h3,h4,_⟩|⟨b,off,h1,h2,_⟩⟩:=h2
  ·refine⟨[],.no,by rw[h1];simp only[VL],?_,?_⟩
   ·simp only[V];exact⟨cap,hc,.inl ⟨rfl,h2,h3,h4,trivial⟩⟩
   ·intro G G' w w' u _ _ _ hu
    rw[h2]at hu ⊢
    exact V.none hu
  ·obtain⟨vs,q1,q2⟩:=VC.cells _ _ _ h2
   have hL:∀i,i<vs.length->G0.L b (off+i):=by
    intro i hi
    have hl:=VL.length _ _ q1
    exact(VC.cell _ _ _ i ((zG zD x.sub)[i]'(by omega)) h2 (by rw[List.getElem?_eq_getElem])).1
   have hcl:VC G0 w (vs.map .val) b off:=VC.of_cells _ vs b off (VL.lits vs) hL q2
   by_cases hs:vs=[]
   ·subst hs
    have hl:=VL.length _ _ q1
    have hfl:=vW oH.len x.sub
    have h0:x.sub.length=0:=by simp at hl;omega
    refine⟨[],.no,q1,?_,?_⟩
    ·simp only[V];exact⟨cap,hc,.inr ⟨b,off,h1,hcl,trivial⟩⟩
    ·intro G G' w w' u _ _ _ hu
     rw[h0]at hu ⊢
     exact V.none hu
   ·have hF:G0.F b:=hB.LF b (off+0) (hL 0 (List.length_pos_iff.2 hs))
    refine⟨vs,.fr,q1,?_,?_⟩
    ·simp only[V];exact⟨cap,hc,.inr ⟨b,off,h1,hcl,hF⟩⟩
    ·intro G G' w w' u e1 e2 e3 hu
     simp only[V]at hu ⊢
     obtain⟨cap',hc',⟨p1,p2,p3,p4,_⟩|⟨b',off',p1,p2,p3⟩⟩:=hu
     ·exact⟨cap',hc',.inl ⟨p1,p2,p3,p4,trivial⟩⟩
     ·have p3':G.F b':=p3
      exact⟨cap',hc',.inr ⟨b',off',p1,VC.lit b' (fun o h=>e2 b' o p3' h) (fun o=>e3 b' o p3') vs off' p2,by show G'.F b';rw[e1];exact p3'⟩⟩
 obtain⟨vs,o,k1,k2,k3⟩:=key
 refine⟨vs,o,k1,?_,?_⟩
 ·simp only[sv,VL,V];simp only[V]at k2;exact⟨trivial,trivial,k2,trivial⟩
 ·intro G G' w w' us e1 e2 e3 hu
  match us,hu with
  | [],hu=>simp only[VL]at hu
  | [_],hu=>simp only[VL,and_false]at hu
  | [_,_],hu=>simp only[VL,and_false]at hu
  | [u0,u1,u2],hu=>
   simp only[VL,and_true]at hu ⊢
   exact⟨by simpa only[V]using hu.1,by simpa only[V]using hu.2.1,k3 G G' w w' u2 e1 e2 e3 hu.2.2⟩
  |_::_::_::_::_,hu=>simp only[VL,and_false]at hu
theorem zYd:yO.lit (.cells [ai 0,ai 0,.sl [] 0 .nl]):=by
 intro G G' w w' us e1 e2 e3 hu
 match us,hu with
 | [],hu=>simp only[VL]at hu
 | [_],hu=>simp only[VL,and_false]at hu
 | [_,_],hu=>simp only[VL,and_false]at hu
 | [u0,u1,u2],hu=>
  simp only[VL,and_true]at hu ⊢
  refine⟨by simpa only[V]using hu.1,by simpa only[V]using hu.2.1,?_⟩
  have:=hu.2.2
  simp only[V]at this ⊢
  obtain⟨cap,h1,⟨_,_,h2,h3,h4⟩|⟨b,off,h2,_,h3⟩⟩:=this
  ·exact⟨cap,h1,.inl ⟨trivial,trivial,h2,h3,h4⟩⟩
  ·exact h3.elim
 |_::_::_::_::_,hu=>simp only[VL,and_false]at hu
def zVg(G0:Gh)(res:AV)(r:Tm×yM):Prop:=∀W G' W',vC G0 W G' W'->uU G'.F G'.w0 W'->∀u,V G' W' res u->V G' W' (.tup [yY r.1,.sl (zG zD r.2) r.2.length .no]) u
def oO(p0:Tm):Tm->yM->Option (Tm×yM)
 | .mk k n [a,b],l=>
  if (k==5)=true then
   if decide ((l.length:Int)≥8192)=true then some (p0,[])else(xF 40 l [b])>>=fun l2=>oO p0 a l2
  else some (.mk k n [a,b],l.reverse)
 |x,l=>some (x,l.reverse)
def zYc(p0:Tm):Option (Tm×yM):=oO p0 p0 []
theorem zOj:∀vs:List Value,AV.DataL (vs.map .val)
 | []=>trivial
 |_::vs=>⟨trivial,zOj vs⟩
theorem VL.rev{G:Gh}{w:World}:∀(l:yM) (ls:List L3),VL G w (zG zD l) (qD ls)->ls.length=l.length->VL G w (zG zD l.reverse) (qD ls.reverse)
 | [],[],_,_=>by simp[zG,qD,VL]
 |x::l,y::ls,h,hl=>by
  simp only[zG,qD,List.flatMap_cons]at h
  obtain⟨u1,u2,e,h1,h2⟩:=VL.split _ _ _ h
  have n1:=VL.length _ _ h1
  rw[oH.len]at n1
  obtain⟨rfl,rfl⟩:=List.append_inj e (by rw[n1];rfl)
  have ih:=VL.rev l ls h2 (by simpa using hl)
  simp only[List.reverse_cons,zG,qD,List.flatMap_append,List.flatMap_cons,List.flatMap_nil,List.append_nil]
  exact VL.append _ _ _ _ ih h1
 | [],_::_,_,h=>by simp at h
 |_::_,[],_,h=>by simp at h
theorem zBq{na:Nb}{G0:Gh}(hB:iE na G0){x:Tm}{l:yM}{vs:List Value}(v1:VL G0 G0.w0 (zG zD x.sub) vs)(hn:na.n=0:=by first|rfl|assumption):zVg G0 (.tup [.agg [ai x.k,ai x.n,.sl (vs.map .val) x.sub.length .no],.sl (zG zD l.reverse) l.length .no]) (x,l.reverse):=by
 intro W G' W' hE hK u hu
 have v:=VL.later hB hE hK v1
 simp only[V,VL]at hu
 obtain⟨us,rfl,hus⟩:=hu
 match us,hus with
 | [],h=>simp only[VL]at h
 | [_],h=>simp only[VL,and_false]at h
 | [ua,ub],h=>
  simp only[VL,and_true]at h
  obtain⟨h1,h2⟩:=h
  simp only[V]at h1
  obtain⟨ws,rfl,hws⟩:=h1
  match ws,hws with
  | [],h=>simp only[VL]at h
  | [_],h=>simp only[VL,and_false]at h
  | [_,_],h=>simp only[VL,and_false]at h
  | [w0,w1,w2],h=>
   simp only[VL,and_true]at h
   obtain⟨g0,g1,g2⟩:=h
   have g3:=zYe g2 v
   simp only[V]
   refine⟨[.agg #[w0,w1,w2],ub],rfl,?_⟩
   simp only[VL,and_true]
   refine⟨?_,by simpa using h2⟩
   simp only[yY,V]
   exact⟨[w0,w1,w2],rfl,by simp only[cS,VL,and_true];exact⟨g0,g1,g3⟩⟩
  |_::_::_::_::_,h=>simp only[VL,and_false]at h
 |_::_::_::_,h=>simp only[VL,and_false]at h
theorem zLA{na:Nb}{G0:Gh}(hB:iE na G0){x:Tm}{q:Option Addr×Nat×Nat}(h0:VL G0 G0.w0 (cS x) (sv x q))(hn:na.n=0:=by first|rfl|assumption):zVg G0 (.tup [.agg (lt3 x q),.sl [] 0 .no]) (x,[]):=by
 intro W G' W' hE hK u hu
 have v:=VL.later hB hE hK h0
 simp only[V,VL]at hu
 obtain⟨us,rfl,hus⟩:=hu
 match us,hus with
 | [],h=>simp only[VL]at h
 | [_],h=>simp only[VL,and_false]at h
 | [ua,ub],h=>
  simp only[VL,and_true]at h
  obtain⟨h1,h2⟩:=h
  simp only[V]at h1
  obtain⟨ws,rfl,hws⟩:=h1
  have hw:ws=sv x q:=VL.litEq (sv x q) ws hws
  subst hw
  simp only[V]
  refine⟨[.agg (sv x q).toArray,ub],rfl,?_⟩
  simp only[VL,and_true]
  refine⟨?_,by simpa[zG]using h2⟩
  simp only[yY,V]
  exact⟨sv x q,rfl,v⟩
 |_::_::_::_,h=>simp only[VL,and_false]at h
theorem yBt{G0:Gh}{p0 x:Tm}{q0:Option Addr×Nat×Nat}{l:yM}{ls:List L3}{vs:List Value}{o:qT}(j:Nat->Value)(hlit:yO.lit (.cells (u5 x vs o)))(hl:VL G0 G0.w0 (zG zD l) (qD ls))(hlen:ls.length=l.length)(h8:l.length≤8192) :
  Dv prog (w9 G0) (U3 f123) (s4P j ls [(7,.mp 2 0),(8,ai x.k),(9,ab false),(10,ab false),(11,.val undef),(12,.val undef),(13,.val undef),(14,.val undef),(15,ab false)]) (sSP (lt3 p0 q0) (u5 x vs o)) (nQ (w9 G0) f123 (.tup [.agg [ai x.k,ai x.n,.sl (vs.map .val) x.sub.length .no],.sl (zG zD l.reverse) l.length .no]) [] 0):=by
 have k1:knd (U3 f123)=1:=by kernel_rfl
 have k3:D4 (nU (U3 f123))=true:=by kernel_rfl
 have k4:zCj (wR (nU (U3 f123)))[1]? = some (some 32,161,#[.tmp 31]):=by kernel_rfl
 have k5:(f161.name == "runtime.NumGoroutine")=false:=by kernel_rfl
 have k6:f161.body.isNone=false:=by kernel_rfl
 refine Dv.seqP k1 ?_
 obtain⟨id,k7⟩:=zRK k3
 rw[k7]
 refine Dv.mut wN (na:=(w9 G0)) rfl 1 [1,2] [(4,.sl (zG zD l.reverse) l.length .no)] (.tup []) (yAZ j ls x _ vs o) yJ.nil k4 func161 k5 k6 ?_ ?_ (fun i=>yBz j i ls l x _ vs o) yJ.nil ?_
 ·intro i X hm hX
  have:i=1∨i=2:=by simpa using uD.1 hm
  rcases this with rfl|rfl
  ·cases hX;exact zYd
  ·cases hX;exact hlit
 ·intro G1 W hB' G w hE hR u hu
  have e:=hB'.κ
  subst e
  refine(zEh (l:=ls) hR (by rfl) (by omega) hu).mono ?_
  rintro e w' ⟨v,b,S,e1,e2,e3,e4,e5,e6,e7⟩
  refine⟨v,b,S,e1,e2,e3,e4,e5,fun G' hE' hK' hS=>⟨by subst e6;simp only[V];exact⟨[],rfl,by simp only[VL]⟩,?_⟩⟩
  intro p hp u' hu'
  have hp':=List.mem_singleton.1 hp
  subst hp'
  have:=e7 G' hS _ (VL.later hB' hE' hK' (VL.rev l ls hl hlen)) u' hu'
  rw[hlen]at this
  exact this
 ·intro i
  exact dV (na:=(w9 G0)) wN mixed (yBy j i l x vs o) (yJ.cons (qY (zOj vs)) (yJ.cons (qY (dT _)) yJ.nil)) (by decide)
theorem yBs{G0:Gh}{p0 x:Tm}{q0:Option Addr×Nat×Nat}{l:yM}{ls:List L3}{vs:List Value}{o:qT}(j:Nat->Value)(hlit:yO.lit (.cells (u5 x vs o)))(hl:VL G0 G0.w0 (zG zD l) (qD ls))(hlen:ls.length=l.length)(h8:l.length≤8192) :
  Dv prog (w9 G0) (U3 f123) (s4P j ls [(7,.mp 2 0),(8,ai x.k),(9,ab true),(10,ab true),(11,.mp 2 2),(12,.sl (vs.map .val) x.sub.length o),(13,ai (x.sub.length:Int)),(14,ab false),(15,ab false)]) (sSP (lt3 p0 q0) (u5 x vs o)) (nQ (w9 G0) f123 (.tup [.agg [ai x.k,ai x.n,.sl (vs.map .val) x.sub.length .no],.sl (zG zD l.reverse) l.length .no]) [] 0):=by
 have k1:knd (U3 f123)=1:=by kernel_rfl
 have k3:D4 (nU (U3 f123))=true:=by kernel_rfl
 have k4:zCj (wR (nU (U3 f123)))[1]? = some (some 32,161,#[.tmp 31]):=by kernel_rfl
 have k5:(f161.name == "runtime.NumGoroutine")=false:=by kernel_rfl
 have k6:f161.body.isNone=false:=by kernel_rfl
 refine Dv.seqP k1 ?_
 obtain⟨id,k7⟩:=zRK k3
 rw[k7]
 refine Dv.mut wN (na:=(w9 G0)) rfl 1 [1,2] [(4,.sl (zG zD l.reverse) l.length .no)] (.tup []) (yBw j ls x _ vs o) yJ.nil k4 func161 k5 k6 ?_ ?_ (fun i=>yBv j i ls l x _ vs o) yJ.nil ?_
 ·intro i X hm hX
  have:i=1∨i=2:=by simpa using uD.1 hm
  rcases this with rfl|rfl
  ·cases hX;exact zYd
  ·cases hX;exact hlit
 ·intro G1 W hB' G w hE hR u hu
  have e:=hB'.κ
  subst e
  refine(zEh (l:=ls) hR (by rfl) (by omega) hu).mono ?_
  rintro e w' ⟨v,b,S,e1,e2,e3,e4,e5,e6,e7⟩
  refine⟨v,b,S,e1,e2,e3,e4,e5,fun G' hE' hK' hS=>⟨by subst e6;simp only[V];exact⟨[],rfl,by simp only[VL]⟩,?_⟩⟩
  intro p hp u' hu'
  have hp':=List.mem_singleton.1 hp
  subst hp'
  have:=e7 G' hS _ (VL.later hB' hE' hK' (VL.rev l ls hl hlen)) u' hu'
  rw[hlen]at this
  exact this
 ·intro i
  exact dV (na:=(w9 G0)) wN mixed (yBu j i l x vs o) (yJ.cons (qY (zOj vs)) (yJ.cons (qY (dT _)) yJ.nil)) (by decide)
theorem zYb{l m r:List L3}(h:xF 40 l m=some r)(hm:m.length≠0):Ob.ok prog (.app 24 24 (zG c3 l) (zG c3 m) (zG c3 r) l.length m.length r.length 3 false):=nF zHj Tryz.underlying24 iO rfl rfl rfl (by decide) rfl (by decide) h hm
theorem zBp{p0 x:Tm}{l:yM}{r:Tm×yM}(h:oO p0 x l=some r)(hx:¬((x.k==5)=true∧x.sub.length=2)):r=(x,l.reverse):=by
 obtain⟨k,n,sub⟩:=x
 unfold oO at h
 split at h
 ·rename_i k' n' a b e
  cases e
  split at h
  ·rename_i hk
   exact(hx ⟨hk,rfl⟩).elim
  ·cases h;rfl
 ·cases h;rfl
theorem zHF{p0:Tm}{q0:Option Addr×Nat×Nat}{G0:Gh}(hB:iE (w9 G0) G0)(h0:VL G0 G0.w0 (cS p0) (sv p0 q0)):∀(N:Nat) (x:Tm) (l:yM) (r:Tm×yM) (hN:SizeOf.sizeOf x≤N) (h:oO p0 x l=some r) (h8:l.length≤8192) (q:Option Addr×Nat×Nat) (ls:List L3)
  (hx:VL G0 G0.w0 (cS x) (sv x q)) (hl:VL G0 G0.w0 (zG zD l) (qD ls)) (hlen:ls.length=l.length),∃res,zVg G0 res r∧∀j:Nat->Value,dL (w9 G0) (kAP f123) (s4P j ls []) (sSP (lt3 p0 q0) (lt3 x q)) (fQ (w9 G0) (nQ (w9 G0) f123 res [] 0) [.blk 0,.seq (U3 f123)]):=by
 intro N
 induction N with
 |zero=>
  intro x l r hN
  obtain⟨k,n,sub⟩:=x
  simp at hN
 |succ N spine_ih=>
 intro x l r hN h h8 q ls hx hl hlen
 obtain⟨vs,o,v1,v2,v3⟩:=zSw hB hx
 have hopen:∀ {res:AV} (j:Nat->Value),dL (w9 G0) (kAP f123) (s4P j ls []) (sSP (lt3 p0 q0) (u5 x vs o)) (fQ (w9 G0) (nQ (w9 G0) f123 res [] 0) [.blk 0,.seq (U3 f123)])->dL (w9 G0) (kAP f123) (s4P j ls []) (sSP (lt3 p0 q0) (lt3 x q)) (fQ (w9 G0) (nQ (w9 G0) f123 res [] 0) [.blk 0,.seq (U3 f123)]):=by
  intro res j hd
  refine Dl.openB (b:=2) (cs:=(lt3 x q)) (cs':=(u5 x vs o)) rfl (fun G1 W hB' G w hE hK us hus=>?_) hd
  have e:=hB'.κ
  subst e
  have hu:us=sv x q:=VL.litEq (sv x q) us hus
  subst hu
  exact VL.later hB' hE hK v2
 by_cases hk:(x.k==5)=true
 ·by_cases h2:x.sub.length=2
  ·obtain⟨k,n,sub⟩:=x
   match sub,h2 with
   | [a,b],_=>
   rw[oO]at h
   replace h:=ifT hk h
   rcases w5 (decide ((l.length:Int)≥8192))with h3|h3
   ·replace h:=ifT h3 h
    cases h
    exact⟨_,zLA hB h0,fun j=>hopen j (Dl.toFin (na:=(w9 G0)) wN mixed 3000 _ _ _ _ _ (spC j p0 q0 ls (.mk k n [a,b]) vs o) (yJ.cons (jI hk) (yJ.cons (jI rfl) (yJ.cons (jI (by rw[hlen];exact h3)) (yJ.cons (qY trivial) yJ.nil)))) (by decide))⟩
   ·replace h:=ifF h3 h
    obtain⟨l2,hg,h⟩:=zC h
    obtain⟨hg1,rfl⟩:=mN hg
    have w1:VL G0 G0.w0 (zD a++(zD b++[])) vs:=v1
    obtain⟨ua,u2,rfl,wa,w2⟩:=VL.split _ _ _ w1
    obtain⟨ub,u3,rfl,wb,w3⟩:=VL.split _ _ _ w2
    have e3:u3=[]:=by
     have:=VL.length _ _ w3
     exact List.length_eq_zero_iff.1 this
    subst e3
    rw[xW]at wa wb
    obtain⟨qa,rfl⟩:=zOk wa
    obtain⟨qb,rfl⟩:=zOk wb
    have h3':List.length l<8192:=by
     have:=of_decide_eq_false h3
     omega
    have hl2:VL G0 G0.w0 (zG zD (l++[b])) (qD (ls++[sv3 b qb])):=by
     simp only[zG,qD,List.flatMap_append,List.flatMap_cons,List.flatMap_nil,List.append_nil]
     refine VL.append _ _ _ _ hl ?_
     rw[xW];exact wb
    have hga:xF 40 ls [sv3 b qb]=some (ls++[sv3 b qb]):=by
     unfold xF
     rw[if_pos]
     simp only[List.length_cons,List.length_nil]at hg1 ⊢
     rw[hlen];exact hg1
    obtain⟨res,hgood,hdl⟩:=spine_ih a (l++[b]) r (by simp at hN;omega) h (by simp;omega) qa (ls++[sv3 b qb]) wa hl2 (by simp[hlen])
    refine⟨res,hgood,fun j=>hopen j (Dl.toHead (na:=(w9 G0)) wN mixed 3000 _ _ _ _ _ (fun i=>spD i j k n a b qa qb _ _ _ ls (ls++[sv3 b qb]) o) ?_ fun i=>hdl i)⟩
    exact yJ.cons (jI hk) (yJ.cons (jI rfl) (yJ.cons (jI (by rw[hlen];exact h3)) (yJ.cons (zYb (m:=[sv3 b qb]) hga (by simp)) (yJ.cons (qY trivial) (yJ.cons (qY (tW zHj.data _)) yJ.nil)))))
  ·have hr:=zBp h (fun e=>h2 e.2)
   subst hr
   refine⟨.tup [.agg [ai x.k,ai x.n,.sl (vs.map .val) x.sub.length .no],.sl (zG zD l.reverse) l.length .no],zBq hB v1,fun j=>hopen j (Dl.step ?_)⟩
   have hx1:=yBs (G0:=G0) (p0:=p0) (q0:=q0) j v3 hl hlen h8
   refine kD (Q:=_) wN mixed 3000 (.run (kAP f123)) [] _ _ _ _ _ _ _ _ (yBx j ls x _ vs o) (yJ.cons (jI hk) (yJ.cons (jI (by simp;omega)) yJ.nil)) ?_
   simp only[KQ,zHv,uH,N0,if_true]
   exact hx1
 ·have hr:=zBp h (fun e=>hk e.1)
  subst hr
  ·refine⟨.tup [.agg [ai x.k,ai x.n,.sl (vs.map .val) x.sub.length .no],.sl (zG zD l.reverse) l.length .no],zBq hB v1,fun j=>hopen j (Dl.step ?_)⟩
   have hx1:=yBt (G0:=G0) (p0:=p0) (q0:=q0) j v3 hl hlen h8
   refine kD (Q:=_) wN mixed 3000 (.run (kAP f123)) [] _ _ _ _ _ _ _ _ (yAY j ls x _ vs o) (yJ.cons (jI (by simpa using hk)) yJ.nil) ?_
   simp only[KQ,zHv,uH,N0,if_true]
   exact hx1
theorem zYa{p0:Tm}{r:Tm×yM}(h:zYc p0=some r):CT prog 123 [] [yY p0] (.tup [yY r.1,.sl (zG zD r.2) r.2.length .no]) [] 0:=by
 refine⟨?_,⟨⟨trivial,trivial,⟨trivial,dT _⟩,trivial⟩,trivial⟩,(fun _ h=>nomatch h),⟨⟨trivial,trivial,dT _,trivial⟩,dT _,trivial⟩,(fun _ h=>nomatch h)⟩
 intro G0 W cargs hB hR hv
 cases hc:cargs.toList with
 |nil=>rw[hc]at hv;simp only[VL]at hv
 |cons u us=>
  rw[hc]at hv
  simp only[VL]at hv
  obtain⟨hu,hus⟩:=hv
  have hus':us=[]:=by
   have:=VL.length _ _ hus
   exact List.length_eq_zero_iff.1 this
  subst hus'
  simp only[yY,V]at hu
  obtain⟨ws,rfl,hws⟩:=hu
  obtain⟨q0,rfl⟩:=zOk hws
  have hBK:iE (w9 G0) G0:=⟨hB.ρ,hB.τ,hB.LF,rfl⟩
  have h0:=VL.back hB hR hws
  obtain⟨res,hgood,hdl⟩:=zHF hBK h0 _ p0 [] r (Nat.le_refl _) h (by simp) q0 [] h0 (by simp[zG,qD,VL]) rfl
  have hv2:VL G0 W [.agg (lt3 p0 q0)] cargs.toList:=by
   rw[hc]
   simp only[VL,V,and_true]
   exact⟨sv p0 q0,rfl,VL.lits (sv p0 q0)⟩
  have hb:=zRI (na:=(w9 G0)) (res:=res) (H1:=[]) (nst:=0) rfl func123 (by kernel_rfl) (Y7 (na:=(w9 G0)) (m:=.run (rV f123)) (fs:=[]) wN mixed (fun i=>spE i p0.k p0.n q0) (yJ.cons (qY trivial) (yJ.cons (qY trivial) yJ.nil)) fun i=>hdl i) hBK hR hv2
  refine hb.mono ?_
  rintro e W' ⟨u,G',s',rfl,hE,hR',hu,h1,h2⟩
  exact⟨u,G',s',rfl,hE,hR',hgood W G' W' hE hR'.below u hu,h1,h2⟩
def u6(_qq:Nat)(p0:Tm):Option (Tm×yM):=zYc p0
theorem zHG{qq:Nat}{p0:Tm}{r:Tm×yM}(h:u6 qq p0=some r):CT prog 123 [] [yY p0] (.tup [yY r.1,.sl (zG zD r.2) r.2.length .no]) [] 0:=zYa h
def zEY(qq:Nat)(p0 p1:Int)(p2:yM):Option Tm:=
 some (Tm.mk p0 p1 p2)
theorem zLB{qq p0 p1 p2 r}(h:zEY qq p0 p1 p2=some r):Ct 143 [] [ai p0,ai p1,zV zD p2 .no] (yY r) [] 0:=⟨by
 unfold zEY at h
 cases h
 exact tF ⟨func143,rfl⟩ 1 [] (oD (dT p2) o0),⟨tv,tv,⟨tv,dT _⟩,tv⟩,zB,⟨tv,tv,dT _,tv⟩,zB⟩
def u7(qq:Nat)(p0 p1:Tm):Option Tm:=
 zEY qq 5 0 [p0,p1]>>=fun r1=>
 some r1
theorem zAB{qq p0 p1 r}(h:u7 qq p0 p1=some r):Ct 167 [] [yY p0,yY p1] (yY r) [] 0:=⟨by
 unfold u7 at h
 obtain⟨r1,h2,h⟩:=zC h
 obtain rfl:=sj h
 exact tF ⟨func167,rfl⟩ 1 [] (oD (dT r1.sub)<|oC 0 [] (zLB h2)<|oS 2 (xO xW [p0,p1]) o0),⟨⟨tv,tv,⟨tv,dT _⟩,tv⟩,⟨tv,tv,⟨tv,dT _⟩,tv⟩,tv⟩,zB,⟨tv,tv,dT _,tv⟩,zB⟩
def iS:Nat->yM->Int->Int->Int->yM->Option Tm
 |0,_,_,_,_,_=>none
 |qq+1,p1,v9,yE,wC,xT=>
 if decide (v9<(p1.length:Int))then
 zW p1 v9>>=fun x2=>
 u7 qq (Tm.mk yE wC xT) x2>>=fun r4=>
 iS qq p1 (xL (v9+1)) r4.k r4.n r4.sub
 else
 some (Tm.mk yE wC xT)
def aK(qq:Nat)(p0:Tm)(p1:yM):Option Tm:=
 iS qq p1 0 p0.k p0.n p0.sub
theorem zSv:∀qq:Nat,(∀ {p1 v9 yE wC xT r},iS qq p1 v9 yE wC xT=some r->(∀j,dL 0 (pt 949 f126) (sp j 18 0 [(2,.mp 0 0),(4,.mp 1 0),(7,zV zD p1 .no),(8,ai (p1.length:Int)),(9,ai v9)]) (⟨[(0,.cells [ai yE,ai wC,zV zD xT .no]),(1,.cells [ai 0,ai 0,zV zD ([]:yM) .nl])],2,[],0,[]⟩) (fQ 0 (nQ 0 f126 (yY r) [] 0) [.blk 0,.seq (pt 15 f126)]))):=by
 intro qq
 induction qq with
 |zero=>
  exact fun h=>nn h
 |succ qq ih=>
  intro p1 v9 yE wC xT r h
  rw[iS]at h
  obtain⟨h1,h⟩|⟨h1,h⟩:=zU h
  obtain⟨x2,h3,h⟩:=zC h
  obtain⟨r4,h5,h⟩:=zC h
  exact fun j=>lH 2 [] [0,1] [] [2,4,7,8,9] (oD (dT p1)<|oD (dT ([]:yM))<|oD (dT r4.sub)<|oC 4 [] (zAB h5)<|oA 0 (xH (o:=.no) h3)<|oB 0 h1 o0) (ih h)
  cases h
  exact fun j=>lF 2 [] (oD (dT xT)<|oB 0 h1 o0)
theorem zAC{qq p0 p1 r}(h:aK qq p0 p1=some r):Ct 126 [] [yY p0,zV zD p1 .no] (yY r) [] 0:=⟨by
 unfold aK at h
 exact tH ⟨func126,rfl⟩ 1 [] [0,1] [] [2,4,7,8,9] (oD (dT p1)<|oD (dT ([]:yM))<|oD (dT p0.sub) o0) (zSv _ h),⟨⟨tv,tv,⟨tv,dT _⟩,tv⟩,⟨tv,dT _⟩,tv⟩,zB,⟨tv,tv,dT _,tv⟩,zB⟩
mutual
def e77:Nat->Tm->Option Tm
 |0,_=>none
 |qq+1,p0=>
 aL qq p0 0 []
def aL:Nat->Tm->Int->yM->Option Tm
 |0,_,_,_=>none
 |qq+1,p0,v14,tT=>
 if decide (v14<(p0.sub.length:Int))then
 zW p0.sub v14>>=fun x2=>
 e77 qq x2>>=fun r4=>
 xF 40 tT [r4]>>=fun l6=>
 aL qq p0 (xL (v14+1)) l6
 else
 some (Tm.mk p0.k p0.n tT)
end
abbrev K77 (p0 r:Tm) (C:Cf):Prop:=C 77 [] [yY p0] (yY r) [] 0
theorem zLC:∀qq:Nat,(∀ {p0 r},e77 qq p0=some r->K77 p0 r Ct)∧(∀ {p0 v14 tT r},aL qq p0 v14 tT=some r->(∀j,dL 0 (pt 4021 f77) (sp j 27 0 [(2,.mp 0 0),(3,.mp 1 0),(12,zV zD p0.sub .no),(13,ai (p0.sub.length:Int)),(14,ai v14)]) (⟨[(0,.cells [ai 0,ai 0,zV zD ([]:yM) .nl]),(1,.cells [ai p0.k,ai p0.n,zV zD tT (.st 0 3)])],2,[0],1,[]⟩) (fQ 0 (nQ 0 f77 (yY r) [] 0) [.blk 0,.seq (pt 63 f77)]))):=by
 intro qq
 induction qq with
 |zero=>
  exact⟨fun h=>nn h,fun h=>nn h⟩
 |succ qq ih=>
  obtain⟨yBr,zJh⟩:=ih
  refine⟨?_,?_⟩
  intro p0 r h
  rw[e77]at h
  exact⟨tH ⟨func77,rfl⟩ 5 [(some 2,2,3)] [1,2] [0] [2,3,12,13,14] (oD (dT p0.sub)<|oD (dT ([]:yM))<|oD (dT ([]:yM)) o0) (zJh h),⟨⟨tv,tv,⟨tv,dT _⟩,tv⟩,tv⟩,zB,⟨tv,tv,dT _,tv⟩,zB⟩
  intro p0 v14 tT r h
  rw[aL]at h
  obtain⟨h1,h⟩|⟨h1,h⟩:=zU h
  obtain⟨x2,h3,h⟩:=zC h
  obtain⟨r4,h5,h⟩:=zC h
  obtain⟨l6,h7,h⟩:=zC h
  exact fun j=>lH 2 [] [0,1] [1] [2,3,12,13,14] (oD (dT p0.sub)<|oD (dT l6)<|oD (dT ([]:yM))<|oP 0 (vE h7 (by simp))<|oS 0 (xO xW [r4])<|oC 1 [] (yBr h5)<|aH 2<|oA 0 (xH (o:=.no) h3)<|oB 0 h1 o0) (zJh h)
  cases h
  exact fun j=>lF 2 [] (oD (dT tT)<|oB 0 h1 o0)
theorem c77{qq p0 r}(h:e77 qq p0=some r):K77 p0 r Ct:=(zLC _).1 h
def e53(qq:Nat)(p0:Tm):Option Tm:=
 bI qq p0>>=fun r1=>
 if r1 then
 e77 qq p0>>=fun r4=>
 some r4
 else
 some (Tm.mk 0 0 [])
theorem q53:Qf 53 f53:=⟨func53,rfl⟩
theorem c53{qq p0 r}(h:e53 qq p0=some r):Ct 53 [] [yY p0] (yY r) [] 0:=⟨by
 unfold e53 at h
 obtain⟨r1,h2,h⟩:=zC h
 obtain⟨h3,h⟩|⟨h3,h⟩:=zU h
 obtain⟨r4,h5,h⟩:=zC h
 obtain rfl:=sj h
 exact tF q53 1 [] (oD (dT r4.sub)<|oC 2 [] (c77 h5)<|oK 1 [] h3 (nC h2) o0)
 obtain rfl:=sj h
 exact tF q53 2 [] (oD (dT ([]:yM))<|oK 1 [] h3 (nC h2) o0),⟨⟨tv,tv,⟨tv,dT _⟩,tv⟩,tv⟩,zB,⟨tv,tv,dT _,tv⟩,zB⟩
theorem rD(t:Tm):Tm.mk t.k t.n t.sub=t:=by cases t;rfl
theorem u9{α:Type}{l:List α}{v:Nat}{x:α}{r:List α}(h:l.drop v=x::r):l.take (v+1)=l.take v++[x]:=by
 have:l[v]? = some x:=by
  have:=congrArg (fun z=>z[0]?) h
  simpa using this
 rw[List.take_add_one,this];rfl
mutual
theorem zBo:∀(t:Tm),xB t=true->zJ (fun q=>e77 q t) t
 | .mk k n l,hg=>by
  refine zJ.succ ?_
  simp only[e77]
  have hh:=wF hg
  exact t6 l (.mk k n l) 0 [] rfl hh.2 (by have:=(kV hh.1).2.2.2.2;exact this) rfl
theorem t6:∀(l:List Tm) (p:Tm) (v:Nat) (acc:List Tm),p.sub.drop v=l->wZ l=true->p.sub.length≤2->acc=p.sub.take v->zJ (fun q=>aL q p (v:Int) acc) p
 | [],p,v,acc,hd,hg,hl,ha=>by
  refine zJ.succ ?_
  simp only[aL]
  refine zJ.ifF (yH hd) (zJ.ret.eq ?_)
  have:p.sub.length≤v:=List.drop_eq_nil_iff.1 hd
  rw[ha,List.take_of_length_le this,rD]
 |t::l,p,v,acc,hd,hg,hl,ha=>by
  have hlt:=yL hd
  have hc:=wB hg
  refine zJ.succ ?_
  simp only[aL]
  refine zJ.ifT (yG hd) (zJ.pure (yD hd) ((zBo t hc.1).bind (zJ.pure (yK (by rw[ha];simp<;>omega)) ?_)))
  rw[yA v (by omega)]
  exact t6 l p (v+1) _ (zY hd) hc.2 hl (by rw[ha,u9 hd])
end
def lV(t:Tm):Tm:=if zH t=true then t else .mk 0 0 []
theorem qK(t:Tm)(ho:t.Ok):zJ (fun q=>e53 q t) (lV t):=by
 simp only[e53]
 refine(xN t ho).bind ?_
 unfold lV
 by_cases h:zH t=true
 ·rw[if_pos h];exact zJ.ifT h ((zBo t (zO h).2.2).bind zJ.ret)
 ·rw[if_neg h];exact zJ.ifF (by simpa using h) zJ.ret
def yF:Tm->Tm
 | .mk k n [a,b]=>if k=5 then yF a else .mk k n [a,b]
 |x=>x
def yS:Tm->List Tm
 | .mk k _ [a,b]=>if k=5 then yS a++[b]else []
 |_=>[]
theorem zLD{l:List Tm}(h:l.length=2):∃a b,l=[a,b]:=by
 rcases l with _|⟨a,_|⟨b,_|⟨c,l⟩⟩⟩<;>simp at h
 exact⟨a,b,rfl⟩
theorem kG(n:Int)(a b:Tm):yF (.mk 5 n [a,b])=yF a:=by rw[yF];simp
theorem pA(n:Int)(a b:Tm):yS (.mk 5 n [a,b])=yS a++[b]:=by rw[yS];simp
theorem tS{t:Tm}(h:t.k≠5):yF t=t:=by
 unfold yF
 split
 ·exact if_neg h
 ·rfl
theorem tY{t:Tm}(h:t.k≠5):yS t=[]:=by
 unfold yS
 split
 ·exact if_neg h
 ·rfl
theorem iT{P:Tm->Prop}(h0:∀t,xB t=true->t.k≠5->P t)(h1:∀n a b,xB (.mk 5 n [a,b])=true->xB a=true->xB b=true->P a->P (.mk 5 n [a,b])):∀t:Tm,xB t=true->P t:=by
 intro t
 induction hn:t.nodes using Nat.strongRecOn generalizing t with
 |ind m ih=>
  intro hg
  by_cases h:t.k=5
  ·obtain⟨k,n,l⟩:=t
   have hh:=wF hg
   have hs:=vN hh.1
   simp only[Tm.k]at h
   subst h
   obtain⟨a,b,rfl⟩:=zLD (hs.2.2.2.2.2.1 (.inr (.inr rfl))).1
   have hc:=wB hh.2
   have hc2:=wB hc.2
   refine h1 n a b hg hc.1 hc2.1 (ih a.nodes ?_ a rfl hc.1)
   rw[Tm.nodes,yP]at hn;omega
  ·exact h0 t hg h
theorem zOh(p0:Tm):∀t:Tm,xB t=true->∀l:List Tm,l.length+t.nodes≤8192->oO p0 t l=some (yF t,yS t++l.reverse):=by
 refine iT ?_ ?_
 ·intro t hg hk l hl
  rw[tS hk,tY hk]
  obtain⟨k,n,ls⟩:=t
  replace hk:¬k=5:=hk
  rcases ls with _|⟨a,_|⟨b,_|⟨c,ls⟩⟩⟩<;>unfold oO<;>simp[hk]
 ·intro n a b hg ha hb ih l hl
  rw[Tm.nodes,yP,yP,yP]at hl
  rw[kG,pA]
  unfold oO
  rw[zRQ (show ((5:Int)==5)=true from rfl),zNS (by simp<;>omega),yK (by simp<;>omega)]
  show oO p0 a (l++[b])=_
  rw[ih (l++[b]) (by simp<;>omega)]
  simp
theorem jL(t:Tm)(hs:zH t=true):zJ (fun q=>u6 q t) (yF t,yS t):=by
 refine zJ.mk fun q=>?_
 have h:=zO hs
 show oO t t []=_
 rw[zOh t t h.2.2 [] (by simpa using h.1)];simp
theorem kH:∀t:Tm,xB t=true->xB (yF t)=true∧(yF t).k≠5∧(yF t).nodes≤t.nodes∧(yF t).high≤t.high∧∀x∈yS t,xB x=true∧x.nodes<t.nodes∧x.high<t.high:=by
 refine iT ?_ ?_
 ·intro t hg hk
  rw[tS hk,tY hk]
  exact⟨hg,hk,Nat.le_refl _,Nat.le_refl _,fun x hx=>by cases hx⟩
 ·intro n a b hg ha hb ih
  rw[kG,pA]
  simp only[Tm.nodes,yP,Tm.high,vQ]
  refine⟨ih.1,ih.2.1,by omega,by omega,fun x hx=>?_⟩
  rcases List.mem_append.1 hx with hx|hx
  ·have:=ih.2.2.2.2 x hx;exact⟨this.1,by omega,by omega⟩
  ·simp at hx;subst hx;exact⟨hb,by omega,by omega⟩
theorem lA{t:Tm}(h1:t.nodes≤8192)(h2:t.high≤128)(h3:xB t=true):zH t=true:=by
 unfold zH;simp[h1,h2,h3]
theorem xI{t x:Tm}(h:zH t=true)(hx:x∈yS t):zH x=true:=by
 have hs:=zO h
 have:=(kH t hs.2.2).2.2.2.2 x hx
 exact lA (by omega) (by omega) this.1
theorem uP{t:Tm}(h:zH t=true):zH (yF t)=true:=by
 have hs:=zO h
 have:=kH t hs.2.2
 exact lA (by omega) (by omega) this.1
theorem rE:∀t:Tm,xB t=true->(yS t).length<t.nodes:=by
 refine iT ?_ ?_
 ·intro t hg hk
  rw[tY hk];have:=vM t;simp;omega
 ·intro n a b hg ha hb ih
  rw[pA,Tm.nodes,yP,yP,yP];simp;omega
def uF(f:Tm):List Tm->Tm
 | []=>f
 |a::l=>uF (.mk 5 0 [f,a]) l
theorem N9(f a:Tm):zJ (fun q=>u7 q f a) (.mk 5 0 [f,a]):=zJ.mk fun _=>rfl
theorem zBn:∀(l p:List Tm) (v:Nat) (f:Tm),p.drop v=l->p.length<9223372036854775808->zJ (fun q=>iS q p (v:Int) f.k f.n f.sub) (uF f l)
 | [],p,v,f,hd,hl=>by
  refine zJ.succ ?_
  simp only[iS]
  exact zJ.ifF (yH hd) (zJ.ret.eq (by rw[rD,uF]))
 |a::l,p,v,f,hd,hl=>by
  have hlt:=yL hd
  refine zJ.succ ?_
  simp only[iS]
  rw[rD]
  refine zJ.ifT (yG hd) (zJ.pure (yD hd) ((N9 f a).bind ?_))
  rw[yA v (by omega),uF]
  exact zBn l p (v+1) (.mk 5 0 [f,a]) (zY hd) hl
theorem nK(f:Tm)(l:List Tm)(h:l.length<9223372036854775808):zJ (fun q=>aK q f l) (uF f l):=by
 simp only[aK]
 exact zBn l l 0 f rfl h
theorem oT:∀(l:List Tm) (f:Tm),f.Ok->(∀x∈l,x.Ok)->(uF f l).Ok
 | [],f,hf,_=>by rw[uF];exact hf
 |a::l,f,hf,hl=>by
  rw[uF]
  refine oT l _ ?_ fun x hx=>hl x (by simp[hx])
  rw[Tm.Ok,mX,mX,mX]
  exact⟨by simp,hf,hl a (by simp),trivial⟩
def zAD(qq:Nat)(p0:Int):Option Tm:=
 zEY qq 2 p0 []>>=fun r1=>
 some r1
theorem zHI{qq p0 r}(h:zAD qq p0=some r):Ct 110 [] [ai p0] (yY r) [] 0:=⟨by
 unfold zAD at h
 obtain⟨r1,h2,h⟩:=zC h
 obtain rfl:=sj h
 exact tF ⟨func110,rfl⟩ 1 [] (oD (dT r1.sub)<|oC 0 [] (zLB h2) o0),⟨tv,tv⟩,zB,⟨tv,tv,dT _,tv⟩,zB⟩
def zLE(qq:Nat)(p0:Int):Option Bool:=
 if decide (p0≥0)then
 some (decide (p0≤1048576))
 else
 some false
theorem zYA:Qf 179 f179:=⟨func179,rfl⟩
theorem zSu{qq p0 r}(h:zLE qq p0=some r):Ct 179 [] [ai p0] (ab r) [] 0:=⟨by
 unfold zLE at h
 obtain⟨h1,h⟩|⟨h1,h⟩:=zU h
 cases h
 exact tF zYA 1 [] (oB 0 h1 o0)
 cases h
 exact tF zYA 0 [] (oB 0 h1 o0),⟨tv,tv⟩,zB,tv,zB⟩
def E4(qq:Nat)(p0 q1 q2:Int):Option Int:=
 if decide (p0<q1)then
 some p0
 else
 some (xL (p0+q2))
theorem zEZ:Qf 181 f181:=⟨func181,rfl⟩
theorem zOg{qq p0 q1 q2 r}(h:E4 qq p0 q1 q2=some r):Ct 181 [.cells [ai q1],.cells [ai q2]] [ai p0,.mp 0 0,.mp 1 0] (ai r) [.cells [ai q1],.cells [ai q2]] 0:=⟨by
 unfold E4 at h
 obtain⟨h1,h⟩|⟨h1,h⟩:=zU h
 obtain rfl:=sj h
 exact tF zEZ 0 [0,1] (oB 1 h1 o0)
 obtain rfl:=sj h
 exact tF zEZ 2 [0,1] (oB 1 h1 o0),⟨tv,(lz rfl),(lz rfl),tv⟩,(zA ⟨tv,tv⟩ (zA ⟨tv,tv⟩ zB)),tv,(zA ⟨tv,tv⟩ (zA ⟨tv,tv⟩ zB))⟩
def zCG(qq:Nat)(p0:Int):Option Tm:=
 zEY qq 1 p0 []>>=fun r1=>
 some r1
theorem zLF{qq p0 r}(h:zCG qq p0=some r):Ct 183 [] [ai p0] (yY r) [] 0:=⟨by
 unfold zCG at h
 obtain⟨r1,h2,h⟩:=zC h
 obtain rfl:=sj h
 exact tF ⟨func183,rfl⟩ 1 [] (oD (dT r1.sub)<|oC 0 [] (zLB h2) o0),⟨tv,tv⟩,zB,⟨tv,tv,dT _,tv⟩,zB⟩
mutual
def pB:Nat->Tm->Int->Int->Int->Option Tm
 |0,_,_,_,_=>none
 |qq+1,p0,p1,q2,q3=>
 if p0.k==1 then
 if decide (p0.n≥p1)then
 E4 qq (xL (p0.n-p1)) q2 q3>>=fun r3=>
 zCG qq (xL (r3+p1))>>=fun r5=>
 some r5
 else
 zCG qq p0.n>>=fun r7=>
 some r7
 else
 uZ qq p0 p1 q2 q3 0 []
def uZ:Nat->Tm->Int->Int->Int->Int->yM->Option Tm
 |0,_,_,_,_,_,_=>none
 |qq+1,p0,p1,q2,q3,v38,wJ=>
 if decide (v38<(p0.sub.length:Int))then
 zW p0.sub v38>>=fun x10=>
 if v38==1 then
 if p0.k != 5 then
 pB qq x10 (xL (p1+1)) q2 q3>>=fun r14=>
 xF 40 wJ [r14]>>=fun l16=>
 uZ qq p0 p1 q2 q3 (xL (v38+1)) l16
 else
 pB qq x10 p1 q2 q3>>=fun r18=>
 xF 40 wJ [r18]>>=fun l20=>
 uZ qq p0 p1 q2 q3 (xL (v38+1)) l20
 else
 pB qq x10 p1 q2 q3>>=fun r22=>
 xF 40 wJ [r22]>>=fun l24=>
 uZ qq p0 p1 q2 q3 (xL (v38+1)) l24
 else
 some (Tm.mk p0.k p0.n wJ)
end
abbrev E5 (p0:Tm) (p1 q2 q3:Int) (r:Tm) (C:Cf):Prop:=C 180 [.cells [ai q2],.cells [ai q3]] [yY p0,ai p1,.clo 181 [] [.mp 0 0,.mp 1 0]] (yY r) [.cells [ai q2],.cells [ai q3]] 0
theorem t7:Qf 180 f180:=⟨func180,rfl⟩
theorem t8{p0 p1 q2 q3 r}(h:E5 p0 p1 q2 q3 r Ci):E5 p0 p1 q2 q3 r Ct:=⟨h,⟨⟨tv,tv,⟨tv,dT _⟩,tv⟩,tv,⟨tv,⟨(lz rfl),(lz rfl),tv⟩⟩,tv⟩,(zA ⟨tv,tv⟩ (zA ⟨tv,tv⟩ zB)),⟨tv,tv,dT _,tv⟩,(zA ⟨tv,tv⟩ (zA ⟨tv,tv⟩ zB))⟩
theorem cW:∀qq:Nat,(∀ {p0 p1 q2 q3 r},pB qq p0 p1 q2 q3=some r->E5 p0 p1 q2 q3 r Ct)∧(∀ {p0 p1 q2 q3 v38 wJ r},uZ qq p0 p1 q2 q3 v38 wJ=some r->(∀j,dL 2 (pt 16309 f180) (sp j 64 0 [(1,ai p1),(2,.clo 181 [] [.mp 0 0,.mp 1 0]),(3,.mp 2 0),(6,.mp 3 0),(7,.mp 4 0),(36,zV zD p0.sub .no),(37,ai (p0.sub.length:Int)),(38,ai v38)]) (⟨[(0,.cells [ai q2]),(1,.cells [ai q3]),(2,.cells [ai p0.k,ai p0.n,zV zD p0.sub .no]),(3,.cells [ai 0,ai 0,zV zD ([]:yM) .nl]),(4,.cells [ai p0.k,ai p0.n,zV zD wJ (.st 0 3)])],5,[0],1,[]⟩) (fQ 2 (nQ 2 f180 (yY r) [.cells [ai q2],.cells [ai q3]] 0) [.blk 0,.seq (pt 255 f180)]))):=by
 intro qq
 induction qq with
 |zero=>
  exact⟨fun h=>nn h,fun h=>nn h⟩
 |succ qq ih=>
  obtain⟨O0,mF⟩:=ih
  refine⟨?_,?_⟩
  intro p0 p1 q2 q3 r h
  rw[pB]at h
  obtain⟨h1,h⟩|⟨h1,h⟩:=zU h
  have k:=oB 1 h1 o0
  obtain⟨h2,h⟩|⟨h2,h⟩:=zU h
  obtain⟨r3,h4,h⟩:=zC h
  obtain⟨r5,h6,h⟩:=zC h
  obtain rfl:=sj h
  exact t8 (tF t7 1 [0,1] (oD (dT r5.sub)<|oC 1 [] (zLF h6)<|oC 2 [0,1] (zOg h4)<|oB 1 h2 k))
  obtain⟨r7,h8,h⟩:=zC h
  obtain rfl:=sj h
  exact t8 (tF t7 1 [0,1] (oD (dT r7.sub)<|oC 1 [] (zLF h8)<|oB 1 h2 k))
  exact t8 (tH t7 5 [(some 4,2,3)] [0,1,2,3,4] [0] [1,2,3,6,7,36,37,38] (oD (dT p0.sub)<|oD (dT ([]:yM))<|oD (dT ([]:yM))<|oD (dT p0.sub)<|oB 1 h1 o0) (mF h))
  intro p0 p1 q2 q3 v38 wJ r h
  rw[uZ]at h
  have z {os ob} (k:Oz os ob):=oD (dT ([]:yM))<|oD (dT p0.sub)<|k
  obtain⟨h9,h⟩|⟨h9,h⟩:=zU h
  obtain⟨x10,h11,h⟩:=zC h
  have k:=oA 0 (xH (o:=.no) h11)<|oB 0 h9 o0
  obtain⟨h12,h⟩|⟨h12,h⟩:=zU h
  have k:=oB 2 h12 k
  obtain⟨h13,h⟩|⟨h13,h⟩:=zU h
  obtain⟨r14,h15,h⟩:=zC h
  obtain⟨l16,h17,h⟩:=zC h
  exact fun j=>lH 2 [] [0,1,2,3,4] [1] [1,2,3,6,7,36,37,38] (oD (dT p0.sub)<|oD (dT l16)<|z<|oP 0 (vE h17 (by simp))<|oS 0 (xO xW [r14])<|oC 1 [0,1] (O0 h15)<|aH 1<|oB 1 h13 k) (mF h)
  obtain⟨r18,h19,h⟩:=zC h
  obtain⟨l20,h21,h⟩:=zC h
  exact fun j=>lH 2 [] [0,1,2,3,4] [1] [1,2,3,6,7,36,37,38] (oD (dT p0.sub)<|oD (dT l20)<|z<|oP 0 (vE h21 (by simp))<|oS 0 (xO xW [r18])<|oC 1 [0,1] (O0 h19)<|aH 0<|oB 1 h13 k) (mF h)
  obtain⟨r22,h23,h⟩:=zC h
  obtain⟨l24,h25,h⟩:=zC h
  exact fun j=>lH 2 [] [0,1,2,3,4] [1] [1,2,3,6,7,36,37,38] (oD (dT p0.sub)<|oD (dT l24)<|z<|oP 0 (vE h25 (by simp))<|oS 0 (xO xW [r22])<|oC 1 [0,1] (O0 h23)<|aH 0<|oB 2 h12 k) (mF h)
  obtain rfl:=sj h
  exact fun j=>lF 2 [0,1] (oD (dT wJ)<|oB 0 h9 o0)
theorem zOf{qq p0 p1 q2 q3 r}(h:pB qq p0 p1 q2 q3=some r):E5 p0 p1 q2 q3 r Ct:=(cW _).1 h
def zLG(qq:Nat)(p0:Tm)(p1 p2:Int):Option (Tm×Int):=
 bI qq p0>>=fun r1=>
 if r1 then
 zLE qq p1>>=fun r4=>
 if r4 then
 zLE qq p2>>=fun r7=>
 if r7 then
 pB qq p0 0 p2 p1>>=fun r10=>
 bI qq r10>>=fun r12=>
 if r12 then
 some (r10,0)
 else
 some ((Tm.mk 0 0 []),2)
 else
 some ((Tm.mk 0 0 []),5)
 else
 some ((Tm.mk 0 0 []),5)
 else
 some ((Tm.mk 0 0 []),5)
theorem zOe:Qf 144 f144:=⟨func144,rfl⟩
theorem zYB{qq p0 p1 p2 r}(h:zLG qq p0 p1 p2=some r):Ct 144 [] [yY p0,ai p1,ai p2] (.tup [yY r.1,ai r.2]) [] 0:=⟨by
 unfold zLG at h
 obtain⟨r1,h2,h⟩:=zC h
 obtain⟨h3,h⟩|⟨h3,h⟩:=zU h
 obtain⟨r4,h5,h⟩:=zC h
 have k:=oK 1 [] h3 (nC h2) o0
 obtain⟨h6,h⟩|⟨h6,h⟩:=zU h
 obtain⟨r7,h8,h⟩:=zC h
 have k:=oK 2 [] h6 (zSu h5) k
 obtain⟨h9,h⟩|⟨h9,h⟩:=zU h
 obtain⟨r10,h11,h⟩:=zC h
 obtain⟨r12,h13,h⟩:=zC h
 have k:=oC 2 [2,1] (zOf h11)<|oK 2 [] h9 (zSu h8) k
 obtain⟨h14,h⟩|⟨h14,h⟩:=zU h
 cases h
 exact tF zOe 3 [] (oD (dT r10.sub)<|oK 2 [] h14 (nC h13) k)
 cases h
 exact tF zOe 2 [] (oD (dT ([]:yM))<|oK 2 [] h14 (nC h13) k)
 cases h
 exact tF zOe 2 [] (oD (dT ([]:yM))<|oK 2 [] h9 (zSu h8) k)
 cases h
 exact tF zOe 2 [] (oD (dT ([]:yM))<|oK 2 [] h6 (zSu h5) k)
 cases h
 exact tF zOe 2 [] (oD (dT ([]:yM))<|oK 1 [] h3 (nC h2) o0),⟨⟨tv,tv,⟨tv,dT _⟩,tv⟩,tv,tv,tv⟩,zB,⟨⟨tv,tv,dT _,tv⟩,tv,tv⟩,zB⟩
def zFz(qq:Nat)(p0:Tm)(p1:Int):Option (Tm×Int):=
 zLG qq p0 p1 0>>=fun r1=>
 some (r1.1,r1.2)
theorem zSt{qq p0 p1 r}(h:zFz qq p0 p1=some r):Ct 111 [] [yY p0,ai p1] (.tup [yY r.1,ai r.2]) [] 0:=⟨by
 unfold zFz at h
 obtain⟨r1,h2,h⟩:=zC h
 cases h
 exact tF ⟨func111,rfl⟩ 3 [] (oD (dT r1.1.sub)<|oC 1 [] (zYB h2) o0),⟨⟨tv,tv,⟨tv,dT _⟩,tv⟩,tv,tv⟩,zB,⟨⟨tv,tv,dT _,tv⟩,tv,tv⟩,zB⟩
def xU(k:Int)(i:Nat)(b:Int):Int:=if i=1∧k≠5 then b+1 else b
mutual
def jM:Tm->Int->Int->Int->Tm
 | .mk kd n l,b,c,k=>if kd=1 then .mk 1 (if b≤n then(if n-b<c then n-b else n-b+k)+b else n) []else .mk kd n (C0 l kd 0 b c k)
def C0:List Tm->Int->Nat->Int->Int->Int->List Tm
 | [],_,_,_,_,_=>[]
 |t::l,kd,i,b,c,k=>jM t (xU kd i b) c k::C0 l kd (i+1) b c k
end
theorem zJg:∀(l:List Tm) (kd:Int) (i:Nat) (b c k:Int),(C0 l kd i b c k).length=l.length
 | [],_,_,_,_,_=>by rw[C0]
 |t::l,kd,i,b,c,k=>by rw[C0];exact congrArg (· + 1) (zJg l kd (i+1) b c k)
theorem O1(n:Int):zJ (fun q=>zCG q n) (.mk 1 n []):=zJ.mk fun _=>rfl
theorem dZ(n:Int):zJ (fun q=>zAD q n) (.mk 2 n []):=zJ.mk fun _=>rfl
mutual
theorem V3:∀(t:Tm) (b c k:Int),xB t=true->0≤b->b+t.high≤1152921504606846976->0≤c->c≤1048576->0≤k->k≤1048576->zJ (fun q=>pB q t b c k) (jM t b c k)
 | .mk kd n l,b,c,k,hg,hb,hb2,hc,hc2,hk,hk2=>by
  refine zJ.succ ?_
  simp only[pB]
  have hh:=wF hg
  have hn:=kV hh.1
  rw[Tm.high]at hb2
  rw[jM]
  by_cases h1:kd=1
  ·rw[if_pos h1]
   refine zJ.ifT (by simpa[Tm.k]using h1) ?_
   simp only[Tm.n]
   by_cases h2:n≥b
   ·refine zJ.ifT (by simpa using h2) ?_
    rw[if_pos h2,yW (x:=n-b) (by omega) (by omega)]
    refine zJ.bind (a:=if n-b<c then n-b else n-b+k) ?_ ?_
    ·refine zJ.mk fun q=>?_
     unfold E4
     by_cases h3:n-b<c
     ·simp[h3]
     ·simp[h3];exact yW (by omega) (by omega)
    ·rw[yW (by split<;>omega) (by split<;>omega)]
     exact(O1 _).bind zJ.ret
   ·refine zJ.ifF (by simpa using h2) ?_
    rw[if_neg h2]
    exact(O1 _).bind zJ.ret
  ·rw[if_neg h1]
   refine zJ.ifF (by simpa[Tm.k]using h1) ?_
   exact zFy l (.mk kd n l) 0 b c k [] rfl hh.2 (by have:=hn.2.2.2.2;exact this) hb (by omega) hc hc2 hk hk2 (by simp)
theorem zFy:∀(l:List Tm) (p:Tm) (v:Nat) (b c k:Int) (acc:List Tm),p.sub.drop v=l->wZ l=true->p.sub.length≤2->0≤b->b+1+vQ l≤1152921504606846976->0≤c->c≤1048576->0≤k->k≤1048576->acc.length≤v ->
  zJ (fun q=>uZ q p b c k (v:Int) acc) (.mk p.k p.n (acc++C0 l p.k v b c k))
 | [],p,v,b,c,k,acc,hd,hg,hl,hb,hb2,hc,hc2,hk,hk2,ha=>by
  refine zJ.succ ?_
  simp only[uZ]
  exact zJ.ifF (yH hd) (zJ.ret.eq (by rw[C0];simp))
 |t::l,p,v,b,c,k,acc,hd,hg,hl,hb,hb2,hc,hc2,hk,hk2,ha=>by
  have hlt:=yL hd
  have hgc:=wB hg
  rw[vQ]at hb2
  refine zJ.succ ?_
  simp only[uZ]
  refine zJ.ifT (yG hd) (zJ.pure (yD hd) ?_)
  have next:∀(x:Tm),zJ (fun q=>xF 40 acc [x]>>=fun l16=>uZ q p b c k (xL ((v:Int)+1)) l16) (.mk p.k p.n (acc++x::C0 l p.k (v+1) b c k)):=fun x=>by
   refine zJ.pure (yK (by simp<;>omega)) ?_
   rw[yA v (by omega)]
   refine(zFy l p (v+1) b c k (acc++[x]) (zY hd) hgc.2 hl hb (by omega) hc hc2 hk hk2 (by simp<;>omega)).eq (by simp)
  rw[C0]
  by_cases h1:v=1
  ·subst h1
   refine zJ.ifT rfl ?_
   by_cases h5:p.k=5
   ·refine zJ.ifF (by simp[h5]) ?_
    have e:xU p.k 1 b=b:=by unfold xU;simp[h5]
    rw[e]
    exact(V3 t b c k hgc.1 hb (by omega) hc hc2 hk hk2).bind (next _)
   ·refine zJ.ifT (by simp[h5]) ?_
    have e:xU p.k 1 b=b+1:=by unfold xU;simp[h5]
    rw[e,yW (x:=b+1) (by omega) (by omega)]
    exact(V3 t (b+1) c k hgc.1 (by omega) (by omega) hc hc2 hk hk2).bind (next _)
  ·refine zJ.ifF (by simp<;>omega) ?_
   have e:xU p.k v b=b:=by unfold xU;simp[h1]
   rw[e]
   exact(V3 t b c k hgc.1 hb (by omega) hc hc2 hk hk2).bind (next _)
end
mutual
theorem zHJ:∀(t:Tm) (b c k:Int),t.Ok->(jM t b c k).Ok
 | .mk kd n l,b,c,k,h=>by
  rw[jM]
  split
  ·rw[Tm.Ok,mX];simp
  ·rw[Tm.Ok]at h ⊢
   rw[zJg]
   exact⟨h.1,zOd l kd 0 b c k h.2⟩
theorem zOd:∀(l:List Tm) (kd:Int) (i:Nat) (b c k:Int),mX l->mX (C0 l kd i b c k)
 | [],_,_,_,_,_,_=>by rw[C0,mX];trivial
 |t::l,kd,i,b,c,k,h=>by
  rw[mX]at h
  rw[C0,mX]
  exact⟨zHJ t _ c k h.1,zOd l kd (i+1) b c k h.2⟩
end
def bJ(n:Int):Bool:=decide (0≤n)&&decide (n≤1048576)
theorem zJf(n:Int):zJ (fun q=>zLE q n) (bJ n):=by
 refine zJ.mk fun q=>?_
 unfold zLE bJ
 by_cases h:n≥0
 ·rw[zRQ (decide_eq_true h)];simp[show 0≤n from h]
 ·rw[zNS (decide_eq_false h)];simp[show ¬0≤n from h]
def zT:Tm:=.mk 0 0 []
def tB(t:Tm)(k c:Int):Tm×Int:=
 if zH t=true∧bJ k=true∧bJ c=true then(if zH (jM t 0 c k)=true then(jM t 0 c k,0)else(zT,2))else(zT,5)
theorem zJe(t:Tm)(k c:Int)(ho:t.Ok):zJ (fun q=>zLG q t k c) (tB t k c):=by
 simp only[zLG]
 refine(xN t ho).bind ?_
 unfold tB
 by_cases h1:zH t=true
 ·refine zJ.ifT h1 ((zJf k).bind ?_)
  by_cases h2:bJ k=true
  ·refine zJ.ifT h2 ((zJf c).bind ?_)
   by_cases h3:bJ c=true
   ·rw[if_pos ⟨h1,h2,h3⟩]
    have hs:=zO h1
    have h2':=h2;have h3':=h3
    unfold bJ at h2' h3'
    simp only[Bool.and_eq_true,decide_eq_true_eq]at h2' h3'
    refine zJ.ifT h3 ((V3 t 0 c k hs.2.2 (by omega) (by omega) h3'.1 h3'.2 h2'.1 h2'.2).bind ((xN _ (zHJ t 0 c k ho)).bind ?_))
    by_cases h4:zH (jM t 0 c k)=true
    ·rw[if_pos h4,if_pos h4];exact zJ.ret
    ·rw[if_neg h4,if_neg h4];exact zJ.ret
   ·rw[if_neg (fun h=>h3 h.2.2)];exact zJ.ifF (by simpa using h3) zJ.ret
  ·rw[if_neg (fun h=>h2 h.2.1)];exact zJ.ifF (by simpa using h2) zJ.ret
 ·rw[if_neg (fun h=>h1 h.1)];exact zJ.ifF (by simpa using h1) zJ.ret
theorem jN(t:Tm)(k c:Int)(ho:t.Ok):(tB t k c).1.Ok:=by
 have hz:zT.Ok:=by unfold zT;rw[Tm.Ok,mX];simp
 unfold tB
 split
 ·split
  ·exact zHJ t 0 c k ho
  ·exact hz
 ·exact hz
theorem zJd(t:Tm)(k:Int)(ho:t.Ok):zJ (fun q=>zFz q t k) (tB t k 0):=by
 simp only[zFz]
 exact(zJe t k 0 ho).bind zJ.ret
def raT(a:Tm)(by' left:Int)(long:Bool):Tm×Int×Bool:=
 if left-szT a 0<0 then(.mk 2 0 [],left-szT a 0,true)
 else if (tB a by' 0).2≠0 then(.mk 2 0 [],left-szT a 0,true)else((tB a by' 0).1,left-szT a 0,long)
mutual
def C1(ls:List Tm):Tm->Int->Int->Bool->Tm×Int×Bool
 | .mk kd n l,b,left,long=>
  if long=true then(.mk 2 0 [],left,long)
  else if kd=1∧b≤n then
   (if h:(n-b).toNat<ls.length then raT (ls[(n-b).toNat]) b left long else(.mk 1 (n-ls.length) [],left,long))
  else
   let r:=S4 ls l kd 0 b (left-1) (decide (left-1<0))
   (.mk kd n r.1,r.2.1,r.2.2)
def S4(ls:List Tm):List Tm->Int->Nat->Int->Int->Bool->List Tm×Int×Bool
 | [],_,_,_,left,long=>([],left,long)
 |t::l,kd,i,b,left,long=>
  let x:=C1 ls t (xU kd i b) left long
  let r:=S4 ls l kd (i+1) b x.2.1 x.2.2
  (x.1::r.1,r.2.1,r.2.2)
end
def lB(left:Int)(long:Bool):Prop:=-8193≤left∧left≤8192∧(long=false->0≤left)
theorem zOc{a:Tm}{by' left:Int}(h:lB left false):lB (raT a by' left false).2.1 (raT a by' left false).2.2:=by
 have:=zEF a 0 (by omega) (by omega)
 have h0:=h.2.2 rfl
 have h1:=h.2.1
 unfold raT lB
 split
 ·exact⟨by simp only;omega,by simp only;omega,fun h=>by cases h⟩
 ·split
  ·exact⟨by simp only;omega,by simp only;omega,fun h=>by cases h⟩
  ·exact⟨by simp only;omega,by simp only;omega,fun _=>by simp only;omega⟩
def zOb(qq:Nat)(p0:Tm)(p1:Int):Option Int:=
 if p0.k != 1 then
 some (-1)
 else
 if decide (p0.n<p1)then
 some (-1)
 else
 some (xL (p0.n-p1))
theorem zVe:Qf 221 f221:=⟨func221,rfl⟩
theorem yBq{qq p0 p1 r}(h:zOb qq p0 p1=some r):Ct 221 [] [yY p0,ai p1] (ai r) [] 0:=⟨by
 unfold zOb at h
 obtain⟨h1,h⟩|⟨h1,h⟩:=zU h
 cases h
 exact tF zVe 0 [] (oB 1 h1 o0)
 have k:=oB 1 h1 o0
 obtain⟨h2,h⟩|⟨h2,h⟩:=zU h
 cases h
 exact tF zVe 0 [] (oB 1 h2 k)
 cases h
 exact tF zVe 2 [] (oB 1 h2 k),⟨⟨tv,tv,⟨tv,dT _⟩,tv⟩,tv,tv⟩,zB,tv,zB⟩
def E6(qq:Nat)(q0:Int)(q1:Bool)(q2:yM)(p1:Tm)(p2:Int):Option (Tm×Int×Bool):=
 zHB qq p1>>=fun r1=>
 if decide ((xL (q0-r1))<0)then
 zAD qq 0>>=fun r4=>
 some (r4,(xL (q0-r1)),true)
 else
 zFz qq p1 p2>>=fun r6=>
 if r6.2 != 0 then
 zAD qq 0>>=fun r9=>
 some (r9,(xL (q0-r1)),true)
 else
 some (r6.1,(xL (q0-r1)),q1)
theorem zCH:Qf 82 f82:=⟨func82,rfl⟩
theorem zSs{qq q0 q1 q2 p1 p2 r}(h:E6 qq q0 q1 q2 p1 p2=some r):Ct 82 [.cells [ai q0,ab q1,.clo 220 [] [.mp 1 0,.mp 2 0]],.cells [zV zD q2 .no],.cells [.mp 0 0]] [.mp 0 0,yY p1,ai p2] (yY r.1) [.cells [ai r.2.1,ab r.2.2,.clo 220 [] [.mp 1 0,.mp 2 0]],.cells [zV zD q2 .no],.cells [.mp 0 0]] 0:=⟨by
 unfold E6 at h
 obtain⟨r1,h2,h⟩:=zC h
 have k:=oC 1 [] (zVk h2)<|aH 0 o0
 obtain⟨h3,h⟩|⟨h3,h⟩:=zU h
 obtain⟨r4,h5,h⟩:=zC h
 cases h
 exact tF zCH 1 [0,1,2] (oD (dT r4.sub)<|oD (dT q2)<|oC 1 [] (zHI h5)<|oB 3 h3 k)
 obtain⟨r6,h7,h⟩:=zC h
 have k:=oC 1 [] (zSt h7)<|oB 3 h3 k
 obtain⟨h8,h⟩|⟨h8,h⟩:=zU h
 obtain⟨r9,h10,h⟩:=zC h
 cases h
 exact tF zCH 1 [0,1,2] (oD (dT r9.sub)<|oD (dT q2)<|oC 1 [] (zHI h10)<|oB 3 h8 k)
 cases h
 exact tF zCH 2 [0,1,2] (oD (dT r6.1.sub)<|oD (dT q2)<|oB 3 h8 k),⟨(lz rfl),⟨tv,tv,⟨tv,dT _⟩,tv⟩,tv,tv⟩,(zA ⟨tv,tv,⟨tv,⟨(lz rfl),(lz rfl),tv⟩⟩,tv⟩ (zA ⟨⟨tv,dT _⟩,tv⟩ (zA ⟨(lz rfl),tv⟩ zB))),⟨tv,tv,dT _,tv⟩,(zA ⟨tv,tv,⟨tv,⟨(lz rfl),(lz rfl),tv⟩⟩,tv⟩ (zA ⟨dT _,tv⟩ (zA ⟨(lz rfl),tv⟩ zB)))⟩
def lC(qq:Nat)(p0:Tm)(p1:Int)(q2:yM)(q3:Int)(q4:Bool):Option (Tm×Bool×Int×Bool):=
 zOb qq p0 p1>>=fun r1=>
 if decide (r1<0)then
 some ((Tm.mk 0 0 []),false,q3,q4)
 else
 if decide (r1<(q2.length:Int))then
 zW q2 r1>>=fun x5=>
 E6 qq q3 q4 q2 x5 p1>>=fun r7=>
 some (r7.1,true,r7.2.1,r7.2.2)
 else
 zCG qq (xL (p0.n-(q2.length:Int)))>>=fun r9=>
 some (r9,true,q3,q4)
theorem s4:Qf 220 f220:=⟨func220,rfl⟩
theorem zOa{qq p0 p1 q2 q3 q4 r}(h:lC qq p0 p1 q2 q3 q4=some r):Ct 220 [.cells [zV zD q2 .no],.cells [.mp 2 0],.cells [ai q3,ab q4,.clo 220 [] [.mp 0 0,.mp 1 0]]] [yY p0,ai p1,.mp 0 0,.mp 1 0] (.tup [yY r.1,ab r.2.1]) [.cells [zV zD q2 .no],.cells [.mp 2 0],.cells [ai r.2.2.1,ab r.2.2.2,.clo 220 [] [.mp 0 0,.mp 1 0]]] 0:=⟨by
 unfold lC at h
 obtain⟨r1,h2,h⟩:=zC h
 have k:=oC 1 [] (yBq h2) o0
 obtain⟨h3,h⟩|⟨h3,h⟩:=zU h
 cases h
 exact tF s4 1 [0,1,2] (oD (dT ([]:yM))<|oD (dT q2)<|oB 0 h3 k)
 have k:=oB 0 h3 k
 obtain⟨h4,h⟩|⟨h4,h⟩:=zU h
 obtain⟨x5,h6,h⟩:=zC h
 obtain⟨r7,h8,h⟩:=zC h
 cases h
 exact tF s4 1 [0,1,2] (oD (dT r7.1.sub)<|oD (dT q2)<|oC 1 [2,0,1] (zSs h8)<|oA 2 (xH (o:=.no) h6)<|oB 2 h4 k)
 obtain⟨r9,h10,h⟩:=zC h
 cases h
 exact tF s4 1 [0,1,2] (oD (dT r9.sub)<|oD (dT q2)<|oC 4 [] (zLF h10)<|oB 2 h4 k),⟨⟨tv,tv,⟨tv,dT _⟩,tv⟩,tv,(lz rfl),(lz rfl),tv⟩,(zA ⟨⟨tv,dT _⟩,tv⟩ (zA ⟨(lz rfl),tv⟩ (zA ⟨tv,tv,⟨tv,⟨(lz rfl),(lz rfl),tv⟩⟩,tv⟩ zB))),⟨⟨tv,tv,dT _,tv⟩,tv,tv⟩,(zA ⟨dT _,tv⟩ (zA ⟨(lz rfl),tv⟩ (zA ⟨tv,tv,⟨tv,⟨(lz rfl),(lz rfl),tv⟩⟩,tv⟩ zB)))⟩
mutual
def pC:Nat->Int->Bool->yM->Tm->Int->Option (Tm×Int×Bool)
 |0,_,_,_,_,_=>none
 |qq+1,q0,q1,q2,p1,p2=>
 if q1 then
 zAD qq 0>>=fun r2=>
 some (r2,q0,q1)
 else
 lC qq p1 p2 q2 q0 q1>>=fun r4=>
 if r4.2.1 then
 some (r4.1,r4.2.2.1,r4.2.2.2)
 else
 if decide ((xL (r4.2.2.1-1))<0)then
 vR qq q2 p1 p2 0 (xL (r4.2.2.1-1)) true []
 else
 vR qq q2 p1 p2 0 (xL (r4.2.2.1-1)) r4.2.2.2 []
def vR:Nat->yM->Tm->Int->Int->Int->Bool->yM->Option (Tm×Int×Bool)
 |0,_,_,_,_,_,_,_=>none
 |qq+1,q2,p1,p2,v53,yE,wC,E7=>
 if decide (v53<(p1.sub.length:Int))then
 zW p1.sub v53>>=fun x9=>
 if v53==1 then
 if p1.k != 5 then
 pC qq yE wC q2 x9 (xL (p2+1))>>=fun r13=>
 xF 40 E7 [r13.1]>>=fun l15=>
 vR qq q2 p1 p2 (xL (v53+1)) r13.2.1 r13.2.2 l15
 else
 pC qq yE wC q2 x9 p2>>=fun r17=>
 xF 40 E7 [r17.1]>>=fun l19=>
 vR qq q2 p1 p2 (xL (v53+1)) r17.2.1 r17.2.2 l19
 else
 pC qq yE wC q2 x9 p2>>=fun r21=>
 xF 40 E7 [r21.1]>>=fun l23=>
 vR qq q2 p1 p2 (xL (v53+1)) r21.2.1 r21.2.2 l23
 else
 some ((Tm.mk p1.k p1.n E7),yE,wC)
end
abbrev E8 (q0:Int) (q1:Bool) (q2:yM) (p1:Tm) (p2:Int) (r:Tm×Int×Bool) (C:Cf):Prop:=C 109 [.cells [ai q0,ab q1,.clo 220 [] [.mp 1 0,.mp 2 0]],.cells [zV zD q2 .no],.cells [.mp 0 0]] [.mp 0 0,yY p1,ai p2] (yY r.1) [.cells [ai r.2.1,ab r.2.2,.clo 220 [] [.mp 1 0,.mp 2 0]],.cells [zV zD q2 .no],.cells [.mp 0 0]] 0
theorem E9:Qf 109 f109:=⟨func109,rfl⟩
theorem F1{q0 q1 q2 p1 p2 r}(h:E8 q0 q1 q2 p1 p2 r Ci):E8 q0 q1 q2 p1 p2 r Ct:=⟨h,⟨(lz rfl),⟨tv,tv,⟨tv,dT _⟩,tv⟩,tv,tv⟩,(zA ⟨tv,tv,⟨tv,⟨(lz rfl),(lz rfl),tv⟩⟩,tv⟩ (zA ⟨⟨tv,dT _⟩,tv⟩ (zA ⟨(lz rfl),tv⟩ zB))),⟨tv,tv,dT _,tv⟩,(zA ⟨tv,tv,⟨tv,⟨(lz rfl),(lz rfl),tv⟩⟩,tv⟩ (zA ⟨dT _,tv⟩ (zA ⟨(lz rfl),tv⟩ zB)))⟩
theorem cX:∀qq:Nat,(∀ {q0 q1 q2 p1 p2 r},pC qq q0 q1 q2 p1 p2=some r->E8 q0 q1 q2 p1 p2 r Ct)∧(∀ {q2 p1 p2 v53 yE wC E7 r},vR qq q2 p1 p2 v53 yE wC E7=some r->(∀j,dL 3 (pt 262069 f109) (sp j 79 0 [(0,.mp 0 0),(2,ai p2),(4,.mp 3 0),(6,.mp 4 0),(9,.mp 5 0),(51,zV zD p1.sub .no),(52,ai (p1.sub.length:Int)),(53,ai v53)]) (⟨[(0,.cells [ai yE,ab wC,.clo 220 [] [.mp 1 0,.mp 2 0]]),(1,.cells [zV zD q2 .no]),(2,.cells [.mp 0 0]),(3,.cells [ai p1.k,ai p1.n,zV zD p1.sub .no]),(4,.cells [ai 0,ai 0,zV zD ([]:yM) .nl]),(5,.cells [ai p1.k,ai p1.n,zV zD E7 (.st 0 3)])],6,[0],1,[]⟩) (fQ 3 (nQ 3 f109 (yY r.1) [.cells [ai r.2.1,ab r.2.2,.clo 220 [] [.mp 1 0,.mp 2 0]],.cells [zV zD q2 .no],.cells [.mp 0 0]] 0) [.blk 0,.seq (pt 4095 f109)]))):=by
 intro qq
 induction qq with
 |zero=>
  exact⟨fun h=>nn h,fun h=>nn h⟩
 |succ qq ih=>
  obtain⟨O2,pD⟩:=ih
  refine⟨?_,?_⟩
  intro q0 q1 q2 p1 p2 r h
  rw[pC]at h
  have z {os ob} (k:Oz os ob):=oD (dT p1.sub)<|oD (dT ([]:yM))<|oD (dT ([]:yM))<|oD (dT p1.sub)<|oD (dT q2)<|k
  obtain⟨h1,h⟩|⟨h1,h⟩:=zU h
  obtain⟨r2,h3,h⟩:=zC h
  cases h
  exact F1 (tF E9 1 [0,1,2] (oD (dT r2.sub)<|oD (dT q2)<|oC 0 [] (zHI h3)<|oB 0 h1 o0))
  obtain⟨r4,h5,h⟩:=zC h
  have k:=oC 2 [1,2,0] (zOa h5)<|oB 0 h1 o0
  obtain⟨h6,h⟩|⟨h6,h⟩:=zU h
  cases h
  exact F1 (tF E9 3 [0,1,2] (oD (dT r4.1.sub)<|oD (dT q2)<|oB 1 h6 k))
  have k:=oB 1 h6 k
  obtain⟨h7,h⟩|⟨h7,h⟩:=zU h
  exact F1 (tH E9 6 [(some 6,2,3)] [0,1,2,3,4,6] [0] [0,2,4,6,9,51,52,53] (z<|oB 5 h7 k) (pD h))
  exact F1 (tH E9 5 [(some 6,2,3)] [0,1,2,3,4,6] [0] [0,2,4,6,9,51,52,53] (z<|oB 5 h7 k) (pD h))
  intro q2 p1 p2 v53 yE wC E7 r h
  rw[vR]at h
  have z {os ob} (k:Oz os ob):=oD (dT ([]:yM))<|oD (dT p1.sub)<|oD (dT q2)<|k
  obtain⟨h8,h⟩|⟨h8,h⟩:=zU h
  obtain⟨x9,h10,h⟩:=zC h
  have k:=oA 0 (xH (o:=.no) h10)<|oB 0 h8 o0
  obtain⟨h11,h⟩|⟨h11,h⟩:=zU h
  have k:=oB 2 h11 k
  obtain⟨h12,h⟩|⟨h12,h⟩:=zU h
  obtain⟨r13,h14,h⟩:=zC h
  obtain⟨l15,h16,h⟩:=zC h
  exact fun j=>lH 2 [] [0,1,2,3,4,5] [1] [0,2,4,6,9,51,52,53] (oD (dT p1.sub)<|oD (dT l15)<|z<|oP 0 (vE h16 (by simp))<|oS 0 (xO xW [r13.1])<|oC 1 [0,1,2] (O2 h14)<|aH 1<|oB 1 h12 k) (pD h)
  obtain⟨r17,h18,h⟩:=zC h
  obtain⟨l19,h20,h⟩:=zC h
  exact fun j=>lH 2 [] [0,1,2,3,4,5] [1] [0,2,4,6,9,51,52,53] (oD (dT p1.sub)<|oD (dT l19)<|z<|oP 0 (vE h20 (by simp))<|oS 0 (xO xW [r17.1])<|oC 1 [0,1,2] (O2 h18)<|aH 0<|oB 1 h12 k) (pD h)
  obtain⟨r21,h22,h⟩:=zC h
  obtain⟨l23,h24,h⟩:=zC h
  exact fun j=>lH 2 [] [0,1,2,3,4,5] [1] [0,2,4,6,9,51,52,53] (oD (dT p1.sub)<|oD (dT l23)<|z<|oP 0 (vE h24 (by simp))<|oS 0 (xO xW [r21.1])<|oC 1 [0,1,2] (O2 h22)<|aH 0<|oB 2 h11 k) (pD h)
  cases h
  exact fun j=>lF 2 [0,1,2] (oD (dT E7)<|oD (dT q2)<|oB 0 h8 o0)
theorem zOA{qq q0 q1 q2 p1 p2 r}(h:pC qq q0 q1 q2 p1 p2=some r):E8 q0 q1 q2 p1 p2 r Ct:=(cX _).1 h
def s5(qq:Nat)(q0:Int)(q1:Bool)(q2:yM):Option Unit:=
 some ()
theorem zOB{qq q0 q1 q2 r}(h:s5 qq q0 q1 q2=some r):Ct 219 [.cells [ai q0,ab q1,.val .nilFunc],.cells [zV zD q2 .no]] [.mp 0 0,.mp 1 0] (.clo 220 [] [.mp 1 0,.mp 2 0]) [.cells [ai q0,ab q1,.val .nilFunc],.cells [zV zD q2 .no],.cells [.mp 0 0]] 0:=⟨by
 unfold s5 at h
 cases h
 exact tF ⟨func219,rfl⟩ 0 [0,1,2] (oD (dT q2) o0),⟨(lz rfl),(lz rfl),tv⟩,(zA ⟨tv,tv,tv,tv⟩ (zA ⟨⟨tv,dT _⟩,tv⟩ zB)),⟨tv,⟨(lz rfl),(lz rfl),tv⟩⟩,(zA ⟨tv,tv,tv,tv⟩ (zA ⟨dT _,tv⟩ (zA ⟨(lz rfl),tv⟩ zB)))⟩
def F2(qq:Nat)(p0:Tm)(q1:yM):Option (Tm×Int):=
 s5 qq 8192 false q1>>=fun r1=>
 pC qq 8192 false q1 p0 0>>=fun r3=>
 if r3.2.2 then
 some ((Tm.mk 0 0 []),2)
 else
 bI qq r3.1>>=fun r6=>
 if r6 then
 some (r3.1,0)
 else
 some ((Tm.mk 0 0 []),2)
theorem zCI:Qf 79 f79:=⟨func79,rfl⟩
theorem zSr{qq p0 q1 r}(h:F2 qq p0 q1=some r):Ct 79 [.cells [zV zD q1 .no]] [yY p0,.clo 219 [] [.mp 0 0]] (.tup [yY r.1,ai r.2]) [.cells [zV zD q1 .no]] 0:=⟨by
 unfold F2 at h
 obtain⟨r1,h2,h⟩:=zC h
 obtain⟨r3,h4,h⟩:=zC h
 have k:=oC 2 [3,0,4] (zOA h4)<|oC 0 [3,0] (zOB h2) o0
 obtain⟨h5,h⟩|⟨h5,h⟩:=zU h
 cases h
 exact tF zCI 1 [0] (oD (dT ([]:yM))<|oD (dT q1)<|oB 1 h5 k)
 obtain⟨r6,h7,h⟩:=zC h
 have k:=oB 1 h5 k
 obtain⟨h8,h⟩|⟨h8,h⟩:=zU h
 cases h
 exact tF zCI 3 [0] (oD (dT r3.1.sub)<|oD (dT q1)<|oK 1 [] h8 (nC h7) k)
 cases h
 exact tF zCI 2 [0] (oD (dT ([]:yM))<|oD (dT q1)<|oK 1 [] h8 (nC h7) k),⟨⟨tv,tv,⟨tv,dT _⟩,tv⟩,⟨tv,⟨(lz rfl),tv⟩⟩,tv⟩,(zA ⟨⟨tv,dT _⟩,tv⟩ zB),⟨⟨tv,tv,dT _,tv⟩,tv,tv⟩,(zA ⟨dT _,tv⟩ zB)⟩
def iU:Nat->Tm->yM->Int->Option (Tm×Int)
 |0,_,_,_=>none
 |qq+1,p0,p1,v14=>
 if decide (v14<(p1.length:Int))then
 zW p1 v14>>=fun x5=>
 bI qq x5>>=fun r7=>
 if r7 then
 iU qq p0 p1 (xL (v14+1))
 else
 some ((Tm.mk 0 0 []),5)
 else
 F2 qq p0 p1>>=fun r10=>
 some (r10.1,r10.2)
def zLH(qq:Nat)(p0:Tm)(p1:yM):Option (Tm×Int):=
 bI qq p0>>=fun r1=>
 if r1 then
 iU qq p0 p1 0
 else
 some ((Tm.mk 0 0 []),5)
theorem zYC:Qf 201 f201:=⟨func201,rfl⟩
theorem zSq:∀qq:Nat,(∀ {p0 p1 v14 r},iU qq p0 p1 v14=some r->(∀j,dL 0 (pt 4021 f201) (sp j 28 0 [(2,.mp 0 0),(3,.mp 1 0),(4,.mp 2 0),(12,zV zD p1 .no),(13,ai (p1.length:Int)),(14,ai v14)]) (⟨[(0,.cells [ai p0.k,ai p0.n,zV zD p0.sub .no]),(1,.cells [zV zD p1 .no]),(2,.cells [ai 0,ai 0,zV zD ([]:yM) .nl])],3,[],0,[]⟩) (fQ 0 (nQ 0 f201 (.tup [yY r.1,ai r.2]) [] 0) [.blk 0,.seq (pt 63 f201)]))):=by
 intro qq
 induction qq with
 |zero=>
  exact fun h=>nn h
 |succ qq ih=>
  intro p0 p1 v14 r h
  rw[iU]at h
  obtain⟨h4,h⟩|⟨h4,h⟩:=zU h
  obtain⟨x5,h6,h⟩:=zC h
  obtain⟨r7,h8,h⟩:=zC h
  have k:=oA 0 (xH (o:=.no) h6)<|oB 0 h4 o0
  obtain⟨h9,h⟩|⟨h9,h⟩:=zU h
  exact fun j=>lH 2 [] [0,1,2] [] [2,3,4,12,13,14] (oD (dT p1)<|oD (dT ([]:yM))<|oD (dT p1)<|oD (dT p0.sub)<|oK 3 [] h9 (nC h8) k) (ih h)
  cases h
  exact fun j=>lF 2 [] (oD (dT ([]:yM))<|oK 3 [] h9 (nC h8) k)
  obtain⟨r10,h11,h⟩:=zC h
  cases h
  exact fun j=>lF 3 [] (oD (dT r10.1.sub)<|oC 1 [1] (zSr h11)<|oB 0 h4 o0)
theorem zYD{qq p0 p1 r}(h:zLH qq p0 p1=some r):Ct 201 [] [yY p0,zV zD p1 .no] (.tup [yY r.1,ai r.2]) [] 0:=⟨by
 unfold zLH at h
 obtain⟨r1,h2,h⟩:=zC h
 obtain⟨h3,h⟩|⟨h3,h⟩:=zU h
 exact tH zYC 3 [] [0,1,2] [] [2,3,4,12,13,14] (oD (dT p1)<|oD (dT ([]:yM))<|oD (dT p1)<|oD (dT p0.sub)<|oK 1 [] h3 (nC h2) o0) (zSq _ h)
 cases h
 exact tF zYC 2 [] (oD (dT ([]:yM))<|oK 1 [] h3 (nC h2) o0),⟨⟨tv,tv,⟨tv,dT _⟩,tv⟩,⟨tv,dT _⟩,tv⟩,zB,⟨⟨tv,tv,dT _,tv⟩,tv,tv⟩,zB⟩
def zOC(qq:Nat)(p0 p1:Tm):Option (Tm×Int):=
 zLH qq p0 [p1]>>=fun r1=>
 some (r1.1,r1.2)
theorem yBp{qq p0 p1 r}(h:zOC qq p0 p1=some r):Ct 208 [] [yY p0,yY p1] (.tup [yY r.1,ai r.2]) [] 0:=⟨by
 unfold zOC at h
 obtain⟨r1,h2,h⟩:=zC h
 cases h
 exact tF ⟨func208,rfl⟩ 3 [] (oD (dT r1.1.sub)<|oC 0 [] (zYD h2)<|oS 2 (xO xW [p1]) o0),⟨⟨tv,tv,⟨tv,dT _⟩,tv⟩,⟨tv,tv,⟨tv,dT _⟩,tv⟩,tv⟩,zB,⟨⟨tv,tv,dT _,tv⟩,tv,tv⟩,zB⟩
theorem zJc:zT.Ok:=by unfold zT;rw[Tm.Ok,mX];simp
theorem xX(k n:Int):(Tm.mk k n []).Ok:=by rw[Tm.Ok,mX];simp
theorem zLI(ls:List Tm)(a:Tm)(b left:Int)(long:Bool)(ho:a.Ok)(hl:lB left long):zJ (fun q=>E6 q left long ls a b) (raT a b left long):=by
 simp only[E6]
 have hs:=zEF a 0 (by omega) (by omega)
 have h1:=hl.1
 have h2:=hl.2.1
 refine(zCA a ho).bind ?_
 rw[yW (x:=left-szT a 0) (by omega) (by omega)]
 unfold raT
 by_cases h:left-szT a 0<0
 ·rw[if_pos h];exact zJ.ifT (decide_eq_true h) ((dZ 0).bind zJ.ret)
 ·rw[if_neg h]
  refine zJ.ifF (decide_eq_false h) ((zJd a b ho).bind ?_)
  by_cases h3:(tB a b 0).2≠0
  ·rw[if_pos h3];exact zJ.ifT (by simpa using h3) ((dZ 0).bind zJ.ret)
  ·rw[if_neg h3];exact zJ.ifF (by simpa using h3) zJ.ret
mutual
theorem V4(ls:List Tm):∀(t:Tm) (b left:Int) (long:Bool),lB left long->lB (C1 ls t b left long).2.1 (C1 ls t b left long).2.2
 | .mk kd n l,b,left,long,h=>by
  rw[C1]
  cases long with
  |true=>simpa using h
  |false=>
   rw[if_neg (by simp)]
   split
   ·split
    ·exact zOc h
    ·exact h
   ·have h0:=h.2.2 rfl
    have h1:=h.2.1
    refine zFx ls l kd 0 b _ _ ⟨by omega,by omega,fun h2=>?_⟩
    simp at h2;omega
theorem zFx(ls:List Tm):∀(l:List Tm) (kd:Int) (i:Nat) (b left:Int) (long:Bool),lB left long->lB (S4 ls l kd i b left long).2.1 (S4 ls l kd i b left long).2.2
 | [],kd,i,b,left,long,h=>by rw[S4];exact h
 |t::l,kd,i,b,left,long,h=>by
  rw[S4]
  exact zFx ls l kd (i+1) b _ _ (V4 ls t _ left long h)
end
theorem zJb(ls:List Tm):∀(l:List Tm) (kd:Int) (i:Nat) (b left:Int) (long:Bool),(S4 ls l kd i b left long).1.length=l.length
 | [],_,_,_,_,_=>by rw[S4]
 |t::l,kd,i,b,left,long=>by rw[S4];exact congrArg (· + 1) (zJb ls l kd (i+1) b _ _)
theorem zVd(a:Tm)(b left:Int)(long:Bool)(h:a.Ok):(raT a b left long).1.Ok:=by
 unfold raT
 split
 ·exact xX _ _
 ·split
  ·exact xX _ _
  ·exact jN a b 0 h
mutual
theorem zHK(ls:List Tm)(hls:∀a∈ls,a.Ok):∀(t:Tm) (b left:Int) (long:Bool),t.Ok->(C1 ls t b left long).1.Ok
 | .mk kd n l,b,left,long,h=>by
  rw[C1]
  split
  ·exact xX _ _
  ·split
   ·split
    ·exact zVd _ _ _ _ (hls _ (List.getElem_mem _))
    ·exact xX _ _
   ·rw[Tm.Ok]at h ⊢
    rw[zJb]
    exact⟨h.1,zOD ls hls l kd 0 b _ _ h.2⟩
theorem zOD(ls:List Tm)(hls:∀a∈ls,a.Ok):∀(l:List Tm) (kd:Int) (i:Nat) (b left:Int) (long:Bool),mX l->mX (S4 ls l kd i b left long).1
 | [],_,_,_,_,_,_=>by rw[S4,mX];trivial
 |t::l,kd,i,b,left,long,h=>by
  rw[mX]at h
  rw[S4,mX]
  exact⟨zHK ls hls t _ _ _ h.1,zOD ls hls l kd (i+1) b _ _ h.2⟩
end
mutual
theorem zJa(ls:List Tm)(hls:∀a∈ls,a.Ok)(hlen:ls.length≤1152921504606846976):∀(t:Tm) (b left:Int) (long:Bool),xB t=true->0≤b->b+t.high≤1152921504606846976->lB left long->zJ (fun q=>pC q left long ls t b) (C1 ls t b left long)
 | .mk kd n l,b,left,long,hg,hb,hb2,hl=>by
  refine zJ.succ ?_
  simp only[pC]
  have hh:=wF hg
  have hn:=kV hh.1
  rw[Tm.high]at hb2
  rw[C1]
  cases long with
  |true=>exact zJ.ifT rfl ((dZ 0).bind (zJ.ret.eq (by simp)))
  |false=>
   refine zJ.ifF rfl ?_
   rw[if_neg (by simp)]
   have hloose:zJ (fun q=>zOb q (.mk kd n l) b) (if kd=1∧b≤n then n-b else -1):=by
    refine zJ.mk fun q=>?_
    unfold zOb
    simp only[Tm.k,Tm.n]
    by_cases h1:kd=1
    ·by_cases h2:n<b
     ·simp[h1,h2,show ¬b≤n by omega]
     ·simp[h1,h2,show b≤n by omega]
      exact yW (by omega) (by omega)
    ·simp[h1]
   by_cases h1:kd=1∧b≤n
   ·rw[if_pos h1]at hloose ⊢
    have hleaf:zJ (fun q=>lC q (.mk kd n l) b ls left false) (let r:=(if h:(n-b).toNat<ls.length then raT (ls[(n-b).toNat]) b left false else(.mk 1 (n-ls.length) [],left,false));(r.1,true,r.2.1,r.2.2)):=by
     simp only[lC]
     refine hloose.bind (zJ.ifF (decide_eq_false (by omega)) ?_)
     by_cases h2:(n-b).toNat<ls.length
     ·rw[dif_pos h2]
      refine zJ.ifT (decide_eq_true (by omega)) (zJ.pure (a:=ls[(n-b).toNat]) ?_ ((zLI ls _ b left false (hls _ (List.getElem_mem _)) hl).bind zJ.ret))
      unfold zW
      rw[if_pos (by omega)]
      exact List.getElem?_eq_getElem h2
     ·rw[dif_neg h2]
      refine zJ.ifF (decide_eq_false (by omega)) ?_
      simp only[Tm.n]
      rw[yW (by omega) (by omega)]
      exact(O1 _).bind zJ.ret
    exact hleaf.bind (zJ.ifT rfl zJ.ret)
   ·rw[if_neg h1]at hloose ⊢
    have hleaf:zJ (fun q=>lC q (.mk kd n l) b ls left false) (.mk 0 0 [],false,left,false):=by
     simp only[lC]
     exact hloose.bind (zJ.ifT rfl zJ.ret)
    refine hleaf.bind (zJ.ifF rfl ?_)
    have h0:=hl.2.2 rfl
    have h3:=hl.2.1
    rw[yW (x:=left-1) (by omega) (by omega)]
    have go:∀lg:Bool,lg=decide (left-1<0)->zJ (fun q=>vR q ls (.mk kd n l) b 0 (left-1) lg []) (let r:=S4 ls l kd 0 b (left-1) (decide (left-1<0));(.mk kd n r.1,r.2.1,r.2.2)):=fun lg hlg=>by
     subst hlg
     refine(zOE ls hls hlen l (.mk kd n l) 0 b (left-1) _ [] rfl hh.2 (by have:=hn.2.2.2.2;exact this) hb (by omega) ⟨by omega,by omega,fun h2=>?_⟩ (by simp)).eq (by simp[Tm.k,Tm.n])
     simp at h2;omega
    by_cases h4:left-1<0
    ·exact zJ.ifT (decide_eq_true h4) (go true (by simp[h4]))
    ·exact zJ.ifF (decide_eq_false h4) (go false (by simp[h4]))
theorem zOE(ls:List Tm)(hls:∀a∈ls,a.Ok)(hlen:ls.length≤1152921504606846976):∀(l:List Tm) (p:Tm) (v:Nat) (b left:Int) (long:Bool) (acc:List Tm),p.sub.drop v=l->wZ l=true->p.sub.length≤2->0≤b->b+1+vQ l≤1152921504606846976->lB left long->acc.length≤v ->
  zJ (fun q=>vR q ls p b (v:Int) left long acc) (.mk p.k p.n (acc++(S4 ls l p.k v b left long).1),(S4 ls l p.k v b left long).2.1,(S4 ls l p.k v b left long).2.2)
 | [],p,v,b,left,long,acc,hd,hg,hl2,hb,hb2,hl,ha=>by
  refine zJ.succ ?_
  simp only[vR]
  exact zJ.ifF (yH hd) (zJ.ret.eq (by rw[S4];simp))
 |t::l,p,v,b,left,long,acc,hd,hg,hl2,hb,hb2,hl,ha=>by
  have hlt:=yL hd
  have hgc:=wB hg
  rw[vQ]at hb2
  refine zJ.succ ?_
  simp only[vR]
  refine zJ.ifT (yG hd) (zJ.pure (yD hd) ?_)
  have next:∀x:Tm×Int×Bool,lB x.2.1 x.2.2->zJ (fun q=>xF 40 acc [x.1]>>=fun l15=>vR q ls p b (xL ((v:Int)+1)) x.2.1 x.2.2 l15)
    (.mk p.k p.n (acc++x.1::(S4 ls l p.k (v+1) b x.2.1 x.2.2).1),(S4 ls l p.k (v+1) b x.2.1 x.2.2).2.1,(S4 ls l p.k (v+1) b x.2.1 x.2.2).2.2):=fun x hx=>by
   refine zJ.pure (yK (by simp<;>omega)) ?_
   rw[yA v (by omega)]
   exact(zOE ls hls hlen l p (v+1) b x.2.1 x.2.2 (acc++[x.1]) (zY hd) hgc.2 hl2 hb (by omega) hx (by simp<;>omega)).eq (by simp)
  rw[S4]
  by_cases h1:v=1
  ·subst h1
   refine zJ.ifT rfl ?_
   by_cases h5:p.k=5
   ·refine zJ.ifF (by simp[h5]) ?_
    have e:xU p.k 1 b=b:=by unfold xU;simp[h5]
    rw[e]
    exact(zJa ls hls hlen t b left long hgc.1 hb (by omega) hl).bind (next _ (V4 ls t b left long hl))
   ·refine zJ.ifT (by simp[h5]) ?_
    have e:xU p.k 1 b=b+1:=by unfold xU;simp[h5]
    rw[e,yW (x:=b+1) (by omega) (by omega)]
    exact(zJa ls hls hlen t (b+1) left long hgc.1 (by omega) (by omega) hl).bind (next _ (V4 ls t (b+1) left long hl))
  ·refine zJ.ifF (by simp<;>omega) ?_
   have e:xU p.k v b=b:=by unfold xU;simp[h1]
   rw[e]
   exact(zJa ls hls hlen t b left long hgc.1 hb (by omega) hl).bind (next _ (V4 ls t b left long hl))
end
def iV(t:Tm)(ls:List Tm):Tm×Int:=
 if zH t=true∧(ls.all zH)=true then
  (if (C1 ls t 0 8192 false).2.2=true then(zT,2)else if zH (C1 ls t 0 8192 false).1=true then((C1 ls t 0 8192 false).1,0)else(zT,2))
 else(zT,5)
theorem zVc(t:Tm)(ls:List Tm)(h:zH t=true)(ho:t.Ok)(hls:∀a∈ls,a.Ok)(hlen:ls.length≤1152921504606846976) :
  zJ (fun q=>F2 q t ls) (if (C1 ls t 0 8192 false).2.2=true then(zT,2)else if zH (C1 ls t 0 8192 false).1=true then((C1 ls t 0 8192 false).1,0)else(zT,2)):=by
 simp only[F2]
 have hs:=zO h
 refine zJ.bind (a:=()) (zJ.mk fun _=>rfl) ((zJa ls hls hlen t 0 8192 false hs.2.2 (by omega) (by omega) ⟨by omega,by omega,fun _=>by omega⟩).bind ?_)
 by_cases h1:(C1 ls t 0 8192 false).2.2=true
 ·rw[if_pos h1];exact zJ.ifT h1 zJ.ret
 ·rw[if_neg h1]
  refine zJ.ifF (by simpa using h1) ((xN _ (zHK ls hls t 0 8192 false ho)).bind ?_)
  by_cases h2:zH (C1 ls t 0 8192 false).1=true
  ·rw[if_pos h2,if_pos h2];exact zJ.ret
  ·rw[if_neg h2,if_neg h2];exact zJ.ret
theorem zFw(t:Tm)(ls:List Tm)(h:zH t=true)(ho:t.Ok)(hls:∀a∈ls,a.Ok)(hlen:ls.length≤1152921504606846976):∀(r:List Tm) (v:Nat),ls.drop v=r ->
  zJ (fun q=>iU q t ls (v:Int)) (if (r.all zH)=true then(if (C1 ls t 0 8192 false).2.2=true then(zT,2)else if zH (C1 ls t 0 8192 false).1=true then((C1 ls t 0 8192 false).1,0)else(zT,2))else(zT,5))
 | [],v,hd=>by
  refine zJ.succ ?_
  simp only[iU]
  exact zJ.ifF (yH hd) ((zVc t ls h ho hls hlen).bind (zJ.ret.eq (by simp)))
 |x::r,v,hd=>by
  have hlt:=yL hd
  have hx:x∈ls:=by
   have:x∈ls.drop v:=by rw[hd];simp
   exact List.mem_of_mem_drop this
  refine zJ.succ ?_
  simp only[iU]
  refine zJ.ifT (yG hd) (zJ.pure (yD hd) ((xN x (hls x hx)).bind ?_))
  by_cases h1:zH x=true
  ·refine zJ.ifT h1 ?_
   rw[yA v (by omega)]
   exact(zFw t ls h ho hls hlen r (v+1) (zY hd)).eq (by simp[h1])
  ·exact zJ.ifF (by simpa using h1) (zJ.ret.eq (by simp[h1,zT]))
theorem zJA(t:Tm)(ls:List Tm)(ho:t.Ok)(hls:∀a∈ls,a.Ok)(hlen:ls.length≤1152921504606846976):zJ (fun q=>zLH q t ls) (iV t ls):=by
 simp only[zLH]
 refine(xN t ho).bind ?_
 unfold iV
 by_cases h:zH t=true
 ·refine zJ.ifT h ((zFw t ls h ho hls hlen ls 0 rfl).eq ?_)
  simp[h]
 ·exact zJ.ifF (by simpa using h) (zJ.ret.eq (by simp[h,zT]))
theorem zVb(t a:Tm)(ho:t.Ok)(ha:a.Ok):zJ (fun q=>zOC q t a) (iV t [a]):=by
 simp only[zOC]
 exact(zJA t [a] ho (by simpa using ha) (by simp)).bind zJ.ret
theorem zJB(t:Tm)(ls:List Tm)(ho:t.Ok)(hls:∀a∈ls,a.Ok):(iV t ls).1.Ok:=by
 unfold iV
 split
 ·split
  ·exact zJc
  ·split
   ·exact zHK ls hls t 0 8192 false ho
   ·exact zJc
 ·exact zJc
def iW:Nat->Int->Int->yM->Int->Int->yM->Option (yM×Tm×Int)
 |0,_,_,_,_,_,_=>none
 |qq+1,p1,v25,v7,pE,nL,tT=>
 if decide (v25<p1)then
 if pE != 3 then
 some ([],(Tm.mk 0 0 []),6)
 else
 zW tT 0>>=fun x10=>
 xF 40 v7 [x10]>>=fun l12=>
 zW tT 1>>=fun x14=>
 iW qq p1 (xL (v25+1)) l12 x14.k x14.n x14.sub
 else
 some (v7,(Tm.mk pE nL tT),0)
def s6(qq:Nat)(p0:Tm)(p1:Int):Option (yM×Tm×Int):=
 bI qq p0>>=fun r1=>
 if r1 then
 if decide (p1<0)then
 some ([],(Tm.mk 0 0 []),5)
 else
 if decide (p1>24)then
 some ([],(Tm.mk 0 0 []),2)
 else
 e53 qq p0>>=fun r6=>
 iW qq p1 0 [] r6.k r6.n r6.sub
 else
 some ([],(Tm.mk 0 0 []),5)
theorem zSp:Qf 190 f190:=⟨func190,rfl⟩
theorem zSo:∀qq:Nat,(∀ {p1 v25 v7 pE nL tT r},iW qq p1 v25 v7 pE nL tT=some r->(∀j,dL 0 (pt 65461 f190) (sp j 45 0 [(5,.mp 0 0),(7,zV zD v7 (.st 0 3)),(8,.mp 1 0),(24,ai p1),(25,ai v25)]) (⟨[(0,.cells [ai 0,ai 0,zV zD ([]:yM) .nl]),(1,.cells [ai pE,ai nL,zV zD tT .no])],2,[0],1,[]⟩) (fQ 0 (nQ 0 f190 (.tup [.sl (zG zD r.1) r.1.length .no,yY r.2.1,ai r.2.2]) [] 0) [.blk 1,.seq (pt 1023 f190)]))):=by
 intro qq
 induction qq with
 |zero=>
  exact fun h=>nn h
 |succ qq ih=>
  intro p1 v25 v7 pE nL tT r h
  rw[iW]at h
  obtain⟨h8,h⟩|⟨h8,h⟩:=zU h
  have k:=oB 0 h8 o0
  obtain⟨h9,h⟩|⟨h9,h⟩:=zU h
  cases h
  exact fun j=>lF 1 [] (oD (dT ([]:yM))<|oD (dT ([]:yM))<|oB 1 h9 k)
  obtain⟨x10,h11,h⟩:=zC h
  obtain⟨l12,h13,h⟩:=zC h
  obtain⟨x14,h15,h⟩:=zC h
  exact fun j=>lH 3 [] [0,1] [1] [5,7,8,24,25] (oD (dT l12)<|oD (dT x14.sub)<|oD (dT ([]:yM))<|oA 1 (xH (o:=.no) h15)<|oP 0 (vE h13 (by simp))<|oS 1 (xO xW [x10])<|oA 1 (xH (o:=.no) h11)<|oB 1 h9 k) (ih h)
  cases h
  exact fun j=>lF 2 [] (oD (dT tT)<|oD (dT v7)<|oB 0 h8 o0)
theorem zOF{qq p0 p1 r}(h:s6 qq p0 p1=some r):Ct 190 [] [yY p0,ai p1] (.tup [.sl (zG zD r.1) r.1.length .no,yY r.2.1,ai r.2.2]) [] 0:=⟨by
 unfold s6 at h
 have z {os ob} (k:Oz os ob):=oD (dT ([]:yM))<|oD (dT ([]:yM))<|k
 obtain⟨r1,h2,h⟩:=zC h
 obtain⟨h3,h⟩|⟨h3,h⟩:=zU h
 have k:=oK 1 [] h3 (nC h2) o0
 obtain⟨h4,h⟩|⟨h4,h⟩:=zU h
 cases h
 exact tF zSp 1 [] (z<|oB 1 h4 k)
 have k:=oB 1 h4 k
 obtain⟨h5,h⟩|⟨h5,h⟩:=zU h
 cases h
 exact tF zSp 1 [] (z<|oB 0 h5 k)
 obtain⟨r6,h7,h⟩:=zC h
 exact tH zSp 1 [(none,7,3)] [1,2] [0] [5,7,8,24,25] (oD (dT ([]:yM))<|oD (dT r6.sub)<|oD (dT ([]:yM))<|oC 1 [] (c53 h7)<|oB 0 h5 k) (zSo _ h)
 cases h
 exact tF zSp 2 [] (z<|oK 1 [] h3 (nC h2) o0),⟨⟨tv,tv,⟨tv,dT _⟩,tv⟩,tv,tv⟩,zB,⟨dT _,⟨tv,tv,dT _,tv⟩,tv,tv⟩,zB⟩
def iX:Nat->Tm->Int->Int->Int->yM->Option (yM×Tm×Int)
 |0,_,_,_,_,_=>none
 |qq+1,p0,v5,wK,vS,kI=>
 if wK==3 then
 if (kI.length:Int)==2 then
 if decide (v5≤24)then
 zW kI 1>>=fun x4=>
 iX qq p0 (xL (v5+1)) x4.k x4.n x4.sub
 else
 s6 qq p0 v5>>=fun r6=>
 some (r6.1,r6.2.1,r6.2.2)
 else
 s6 qq p0 v5>>=fun r8=>
 some (r8.1,r8.2.1,r8.2.2)
 else
 s6 qq p0 v5>>=fun r10=>
 some (r10.1,r10.2.1,r10.2.2)
def zFv(qq:Nat)(p0:Tm):Option (yM×Tm×Int):=
 iX qq p0 0 p0.k p0.n p0.sub
theorem zSn:∀qq:Nat,(∀ {p0 v5 wK vS kI r},iX qq p0 v5 wK vS kI=some r->(∀j,dL 0 (pt 4021 f158) (sp j 34 0 [(1,.mp 0 0),(3,.mp 1 0),(5,ai v5),(6,.mp 2 0)]) (⟨[(0,.cells [ai p0.k,ai p0.n,zV zD p0.sub .no]),(1,.cells [ai 0,ai 0,zV zD ([]:yM) .nl]),(2,.cells [ai wK,ai vS,zV zD kI .no])],3,[],0,[]⟩) (fQ 0 (nQ 0 f158 (.tup [.sl (zG zD r.1) r.1.length .no,yY r.2.1,ai r.2.2]) [] 0) [.blk 0,.seq (pt 63 f158)]))):=by
 intro qq
 induction qq with
 |zero=>
  exact fun h=>nn h
 |succ qq ih=>
  intro p0 v5 wK vS kI r h
  rw[iX]at h
  obtain⟨h1,h⟩|⟨h1,h⟩:=zU h
  have k:=oB 1 h1 o0
  obtain⟨h2,h⟩|⟨h2,h⟩:=zU h
  have k:=oB 2 h2 k
  obtain⟨h3,h⟩|⟨h3,h⟩:=zU h
  obtain⟨x4,h5,h⟩:=zC h
  exact fun j=>lH 2 [] [0,1,3] [] [1,3,5,6] (oD (dT x4.sub)<|oD (dT ([]:yM))<|oD (dT p0.sub)<|oA 4 (xH (o:=.no) h5)<|oB 0 h3 k) (ih h)
  obtain⟨r6,h7,h⟩:=zC h
  cases h
  exact fun j=>lF 4 [] (oD (dT r6.2.1.sub)<|oD (dT r6.1)<|oC 1 [] (zOF h7)<|oB 0 h3 k)
  obtain⟨r8,h9,h⟩:=zC h
  cases h
  exact fun j=>lF 4 [] (oD (dT r8.2.1.sub)<|oD (dT r8.1)<|oC 1 [] (zOF h9)<|oB 2 h2 k)
  obtain⟨r10,h11,h⟩:=zC h
  cases h
  exact fun j=>lF 4 [] (oD (dT r10.2.1.sub)<|oD (dT r10.1)<|oC 1 [] (zOF h11)<|oB 1 h1 o0)
theorem zSm{qq p0 r}(h:zFv qq p0=some r):Ct 158 [] [yY p0] (.tup [.sl (zG zD r.1) r.1.length .no,yY r.2.1,ai r.2.2]) [] 0:=⟨by
 unfold zFv at h
 exact tH ⟨func158,rfl⟩ 2 [] [0,1,2] [] [1,3,5,6] (oD (dT p0.sub)<|oD (dT ([]:yM))<|oD (dT p0.sub) o0) (zSn _ h),⟨⟨tv,tv,⟨tv,dT _⟩,tv⟩,tv⟩,zB,⟨dT _,⟨tv,tv,dT _,tv⟩,tv,tv⟩,zB⟩
def iY:Nat->Int->Int->(Tm×yM)->Int->Option Bool
 |0,_,_,_,_=>none
 |qq+1,p2,p4,r1,v37=>
 if decide (v37<p2)then
 zW r1.2 v37>>=fun x7=>
 if x7.k != 1 then
 some false
 else
 if x7.n != (xL ((xL (p4-1))-v37))then
 some false
 else
 iY qq p2 p4 r1 (xL (v37+1))
 else
 some true
def zHL(qq:Nat)(p0:Tm)(p1 p2 p3 p4:Int):Option Bool:=
 u6 qq p0>>=fun r1=>
 if r1.1.k != 6 then
 some false
 else
 if r1.1.n != p1 then
 some false
 else
 if (r1.2.length:Int) != (xL (p2+p3))then
 some false
 else
 iY qq p2 p4 r1 0
theorem zSl:Qf 194 f194:=⟨func194,rfl⟩
theorem zSk:∀qq:Nat,(∀ {p2 p4 r1 v37 r},iY qq p2 p4 r1 v37=some r->(∀j,dL 0 (pt 16309 f194) (sp j 59 0 [(4,ai p4),(12,zV zD r1.2 .no),(36,ai p2),(37,ai v37)]) (⟨[],0,[],0,[]⟩) (fQ 0 (nQ 0 f194 (ab r) [] 0) [.blk 0,.seq (pt 255 f194)]))):=by
 intro qq
 induction qq with
 |zero=>
  exact fun h=>nn h
 |succ qq ih=>
  intro p2 p4 r1 v37 r h
  rw[iY]at h
  obtain⟨h6,h⟩|⟨h6,h⟩:=zU h
  obtain⟨x7,h8,h⟩:=zC h
  have k:=oA 0 (xH (o:=.no) h8)<|oB 0 h6 o0
  obtain⟨h9,h⟩|⟨h9,h⟩:=zU h
  cases h
  exact fun j=>lF 0 [] (oB 1 h9 k)
  have k:=oA 0 (xH (o:=.no) h8)<|oB 1 h9 k
  obtain⟨h10,h⟩|⟨h10,h⟩:=zU h
  cases h
  exact fun j=>lF 0 [] (oB 3 h10 k)
  exact fun j=>lH 1 [] [] [] [4,12,36,37] (oD (dT r1.2)<|oB 3 h10 k) (ih h)
  cases h
  exact fun j=>lF 0 [] (oB 0 h6 o0)
theorem zSj{qq p0 p1 p2 p3 p4 r}(h:zHL qq p0 p1 p2 p3 p4=some r):Ct 194 [] [yY p0,ai p1,ai p2,ai p3,ai p4] (ab r) [] 0:=⟨by
 unfold zHL at h
 obtain⟨r1,h2,h⟩:=zC h
 have k:=oC 1 [] (zHG h2) o0
 obtain⟨h3,h⟩|⟨h3,h⟩:=zU h
 cases h
 exact tF zSl 0 [] (oB 4 h3 k)
 have k:=oB 4 h3 k
 obtain⟨h4,h⟩|⟨h4,h⟩:=zU h
 cases h
 exact tF zSl 0 [] (oB 1 h4 k)
 have k:=oB 1 h4 k
 obtain⟨h5,h⟩|⟨h5,h⟩:=zU h
 cases h
 exact tF zSl 0 [] (oB 2 h5 k)
 exact tH zSl 0 [] [] [] [4,12,36,37] (oD (dT r1.2)<|oB 2 h5 k) (zSk _ h),⟨⟨tv,tv,⟨tv,dT _⟩,tv⟩,tv,tv,tv,tv,tv⟩,zB,tv,zB⟩
def nS:Nat->Tm->Option (List Tm×Tm)
 |0,t=>some ([],t)
 |n+1,.mk k _ [a,b]=>if k=3 then(nS n b).map fun r=>(a::r.1,r.2)else none
 |_+1,_=>none
theorem cA(n:Nat)(m:Int)(a b:Tm):nS (n+1) (.mk 3 m [a,b])=(nS n b).map fun r=>(a::r.1,r.2):=by rw[nS,if_pos rfl]
theorem eJ{n:Nat}{t:Tm}(h:t.k≠3):nS (n+1) t=none:=by
 unfold nS
 split
 ·rename_i h1;cases h1
 ·rename_i h1;exact if_neg h
 ·rfl
theorem mG{t:Tm}(hg:xB t=true)(h:t.k=3):∃a b,t = .mk 3 t.n [a,b]∧xB a=true∧xB b=true:=by
 obtain⟨k,n,l⟩:=t
 have hh:=wF hg
 have hs:=vN hh.1
 replace h:k=3:=h
 subst h
 obtain⟨a,b,rfl⟩:=zLD (hs.2.2.2.2.2.1 (.inl rfl)).1
 have hc:=wB hh.2
 exact⟨a,b,rfl,hc.1,(wB hc.2).1⟩
def zCJ(acc:List Tm):Option (List Tm×Tm)->List Tm×Tm×Int
 |none=>([],zT,6)
 |some r=>(acc++r.1,r.2,0)
theorem zLJ(N:Nat)(hN:N≤24):∀(m v:Nat) (acc:List Tm) (x:Tm),v+m=N->xB x=true->acc.length≤v->zJ (fun q=>iW q (N:Int) (v:Int) acc x.k x.n x.sub) (zCJ acc (nS m x)):=by
 intro m
 induction m with
 |zero=>
  intro v acc x hm hg ha
  refine zJ.succ ?_
  simp only[iW]
  refine zJ.ifF (decide_eq_false (by omega)) (zJ.ret.eq ?_)
  rw[nS,zCJ,rD];simp
 |succ m ih=>
  intro v acc x hm hg ha
  refine zJ.succ ?_
  simp only[iW]
  refine zJ.ifT (decide_eq_true (by omega)) ?_
  by_cases h:x.k=3
  ·obtain⟨a,b,hx,hga,hgb⟩:=mG hg h
   refine zJ.ifF (by simp[h]) ?_
   rw[hx,cA]
   refine zJ.pure (a:=a) rfl (zJ.pure (yK (by simp<;>omega)) (zJ.pure (a:=b) rfl ?_))
   rw[yA v (by omega)]
   refine(ih (v+1) (acc++[a]) b (by omega) hgb (by simp<;>omega)).eq ?_
   cases nS m b<;>simp[zCJ]
  ·rw[eJ h,zCJ]
   exact zJ.ifT (by simp[h]) zJ.ret
def uX(t:Tm)(n:Int):List Tm×Tm×Int:=
 if zH t=true then(if n<0 then([],zT,5)else if n>24 then([],zT,2)else zCJ [] (nS n.toNat t))else([],zT,5)
theorem F3(t:Tm)(n:Int)(ho:t.Ok):zJ (fun q=>s6 q t n) (uX t n):=by
 simp only[s6]
 refine(xN t ho).bind ?_
 unfold uX
 by_cases h:zH t=true
 ·rw[if_pos h]
  refine zJ.ifT h ?_
  by_cases h1:n<0
  ·rw[if_pos h1];exact zJ.ifT (decide_eq_true h1) zJ.ret
  ·rw[if_neg h1]
   refine zJ.ifF (decide_eq_false h1) ?_
   by_cases h2:n>24
   ·rw[if_pos h2];exact zJ.ifT (decide_eq_true h2) zJ.ret
   ·rw[if_neg h2]
    refine zJ.ifF (decide_eq_false h2) ((qK t ho).bind ?_)
    unfold lV
    rw[if_pos h]
    have:=zLJ n.toNat (by omega) n.toNat 0 [] t (by omega) (zO h).2.2 (by simp)
    rw[show ((n.toNat:Nat):Int)=n by omega]at this
    exact this
 ·rw[if_neg h];exact zJ.ifF (by simpa using h) zJ.ret
def vP:Tm->Nat
 | .mk k _ [_,b]=>if k=3 then vP b+1 else 0
 |_=>0
theorem cB(m:Int)(a b:Tm):vP (.mk 3 m [a,b])=vP b+1:=by rw[vP,if_pos rfl]
theorem zCK{t:Tm}(h:t.k≠3):vP t=0:=by
 unfold vP
 split
 ·exact if_neg h
 ·rfl
theorem zOG{t:Tm}(h:t.sub.length≠2):vP t=0:=by
 unfold vP
 split
 ·exact absurd rfl h
 ·rfl
def yX(t:Tm):List Tm×Tm×Int:=uX t ((min (vP t) 25:Nat):Int)
theorem zLK(p:Tm)(ho:p.Ok):∀(m v:Nat) (x:Tm),v+m=25->zJ (fun q=>iX q p (v:Int) x.k x.n x.sub) (uX p ((min (v+vP x) 25:Nat):Int)):=by
 intro m
 induction m with
 |zero=>
  intro v x hm
  refine zJ.succ ?_
  simp only[iX]
  have hv:v=25:=by omega
  subst hv
  have hsp:zJ (fun q=>s6 q p ((25:Nat):Int)>>=fun r6=>some (r6.1,r6.2.1,r6.2.2)) (uX p ((min (25+vP x) 25:Nat):Int)):=
   ((F3 p _ ho).bind zJ.ret).eq (by rw[show min (25+vP x) 25=25 by omega])
  exact zJ.iff (fun _=>zJ.iff (fun _=>zJ.ifF rfl hsp) fun _=>hsp) fun _=>hsp
 |succ m ih=>
  intro v x hm
  refine zJ.succ ?_
  simp only[iX]
  have hsp:vP x=0->zJ (fun q=>s6 q p (v:Int)>>=fun r6=>some (r6.1,r6.2.1,r6.2.2)) (uX p ((min (v+vP x) 25:Nat):Int)):=fun h=>
   ((F3 p _ ho).bind zJ.ret).eq (by rw[h,show min (v+0) 25=v by omega])
  by_cases h3:x.k=3
  ·refine zJ.ifT (by simp[h3]) ?_
   by_cases h2:x.sub.length=2
   ·refine zJ.ifT (by simp[h2]) (zJ.ifT (decide_eq_true (by omega)) ?_)
    obtain⟨k,n,l⟩:=x
    replace h3:k=3:=h3
    subst h3
    obtain⟨a,b,rfl⟩:=zLD h2
    refine zJ.pure (a:=b) rfl ?_
    rw[yA v (by omega),cB]
    exact(ih (v+1) b (by omega)).eq (by rw[show v+1+vP b=v+(vP b+1) by omega])
   ·exact zJ.ifF (by simp<;>omega) (hsp (zOG h2))
  ·exact zJ.ifF (by simp[h3]) (hsp (zCK h3))
theorem F4(t:Tm)(ho:t.Ok):zJ (fun q=>zFv q t) (yX t):=by
 simp only[zFv]
 exact(zLK t ho 25 0 t rfl).eq (by unfold yX;simp)
theorem O3:∀(n:Nat) (t:Tm) (r:List Tm×Tm),xB t=true->nS n t=some r->r.1.length=n∧vP t=n+vP r.2∧(xB r.2=true∧r.2.nodes≤t.nodes∧r.2.high≤t.high)∧∀x∈r.1,xB x=true∧x.nodes≤t.nodes∧x.high≤t.high
 |0,t,r,hg,h=>by
  rw[nS]at h;cases h
  exact⟨rfl,by simp,⟨hg,Nat.le_refl _,Nat.le_refl _⟩,fun x hx=>by cases hx⟩
 |n+1,t,r,hg,h=>by
  by_cases h3:t.k=3
  ·obtain⟨a,b,hx,hga,hgb⟩:=mG hg h3
   rw[hx]at h ⊢
   rw[cA]at h
   obtain⟨r',h1,rfl⟩:=Option.map_eq_some_iff.1 h
   have ih:=O3 n b r' hgb h1
   rw[cB]
   simp only[Tm.nodes,yP,Tm.high,vQ]
   refine⟨by simp[ih.1],by omega,⟨ih.2.2.1.1,by omega,by omega⟩,fun x hx=>?_⟩
   rcases List.mem_cons.1 hx with rfl|hx
   ·exact⟨hga,by omega,by omega⟩
   ·have:=ih.2.2.2 x hx;exact⟨this.1,by omega,by omega⟩
  ·rw[eJ h3]at h;cases h
theorem zOH:∀t:Tm,xB t=true->∀n≤vP t,∃r,nS n t=some r:=by
 intro t hg n
 induction n generalizing t with
 |zero=>intro _;exact⟨_,rfl⟩
 |succ n ih=>
  intro h
  by_cases h3:t.k=3
  ·obtain⟨a,b,hx,hga,hgb⟩:=mG hg h3
   rw[hx,cB]at h
   obtain⟨r,hr⟩:=ih b hgb (by omega)
   exact⟨_,by rw[hx,cA,hr];rfl⟩
  ·rw[zCK h3]at h;omega
theorem zBm{t:Tm}{n:Int}{l:List Tm}{y:Tm}(h:uX t n=(l,y,0)):zH t=true∧0≤n∧n≤24∧(l.length:Int)=n∧vP t=l.length+vP y∧zH y=true∧∀x∈l,zH x=true:=by
 unfold uX at h
 split at h
 ·rename_i hs
  split at h
  ·simp at h
  ·split at h
   ·simp at h
   ·cases hr:nS n.toNat t with
    |none=>rw[hr]at h;simp[zCJ]at h
    |some r=>
     rw[hr]at h
     simp only[zCJ,List.nil_append,Prod.mk.injEq,and_true]at h
     obtain⟨rfl,rfl⟩:=h
     have hsp:=zO hs
     have:=O3 _ _ _ hsp.2.2 hr
     refine⟨hs,by omega,by omega,by omega,by omega,lA (by omega) (by omega) this.2.2.1.1,fun x hx=>?_⟩
     have hx:=this.2.2.2 x hx
     exact lA (by omega) (by omega) hx.1
 ·simp at h
theorem qS{t:Tm}{l:List Tm}{y:Tm}(h:yX t=(l,y,0)):zH t=true∧l.length=vP t∧l.length≤24∧vP y=0∧zH y=true∧∀x∈l,zH x=true:=by
 have:=zBm h
 refine⟨this.1,by omega,by omega,by omega,this.2.2.2.2.2.1,this.2.2.2.2.2.2⟩
def zFu:List Tm->Int->Bool
 | [],_=>true
 |a::l,n=>a.k==1&&a.n==n&&zFu l (n-1)
def pF(t:Tm)(of pars more binders:Int):Bool:=
 (yF t).k==6&&(yF t).n==of&&((yS t).length:Int)==pars+more&&zFu ((yS t).take pars.toNat) (binders-1)
theorem zFt(p:Tm×List Tm)(P:Nat)(binders:Int)(hP:P≤p.2.length)(hl:p.2.length≤8192)(hb:-1152921504606846976≤binders∧binders≤1152921504606846976):∀(m v:Nat),v+m=P ->
  zJ (fun q=>iY q (P:Int) binders p (v:Int)) (zFu ((p.2.take P).drop v) (binders-1-v)):=by
 intro m
 induction m with
 |zero=>
  intro v hm
  refine zJ.succ ?_
  simp only[iY]
  refine zJ.ifF (decide_eq_false (by omega)) (zJ.ret.eq ?_)
  rw[List.drop_eq_nil_of_le (by simp<;>omega),zFu]
 |succ m ih=>
  intro v hm
  refine zJ.succ ?_
  simp only[iY]
  have hv:v<(p.2.take P).length:=by simp<;>omega
  have hd:=List.drop_eq_getElem_cons hv
  have hg:zW p.2 (v:Int)=some (p.2.take P)[v]:=by
   unfold zW
   rw[if_pos (by omega),show (v:Int).toNat=v by omega,List.getElem?_eq_getElem (by omega)]
   simp
  generalize (p.2.take P)[v]=x at hd hg
  refine zJ.ifT (decide_eq_true (by omega)) (zJ.pure hg ?_)
  rw[hd,zFu,yW (x:=binders-1) (by omega) (by omega),yW (x:=binders-1-v) (by omega) (by omega)]
  by_cases h1:x.k=1
  ·refine zJ.ifF (by simp[h1]) ?_
   by_cases h2:x.n=binders-1-v
   ·refine zJ.ifF (by simp[h2]) ?_
    rw[yA v (by omega)]
    refine(ih (v+1) (by omega)).eq ?_
    rw[show binders-1-((v+1:Nat):Int)=binders-1-v-1 by omega]
    simp[h1,h2]
   ·exact zJ.ifT (by simp[h2]) (zJ.ret.eq (by simp[h2]))
  ·exact zJ.ifT (by simp[h1]) (zJ.ret.eq (by simp[h1]))
theorem aM(t:Tm)(of pars more binders:Int)(hs:zH t=true)(h0:0≤pars∧pars≤1152921504606846976)(h1:0≤more∧more≤1152921504606846976)(hb:-1152921504606846976≤binders∧binders≤1152921504606846976) :
  zJ (fun q=>zHL q t of pars more binders) (pF t of pars more binders):=by
 simp only[zHL]
 refine(jL t hs).bind ?_
 unfold pF
 by_cases h2:(yF t).k=6
 ·refine zJ.ifF (by simp[h2]) ?_
  by_cases h3:(yF t).n=of
  ·refine zJ.ifF (by simp[h3]) ?_
   rw[yW (x:=pars+more) (by omega) (by omega)]
   by_cases h4:((yS t).length:Int)=pars+more
   ·refine zJ.ifF (by simp[h4]) ?_
    have hl:=rE t (zO hs).2.2
    have hn:=(zO hs).1
    have:=zFt (yF t,yS t) pars.toNat binders (by show _≤(yS t).length;omega) (by show (yS t).length≤_;omega) hb pars.toNat 0 (by omega)
    rw[show ((pars.toNat:Nat):Int)=pars by omega]at this
    exact this.eq (by simp[h2,h3,h4])
   ·exact zJ.ifT (by simp[h4]) (zJ.ret.eq (by simp[h4]))
  ·exact zJ.ifT (by simp[h3]) (zJ.ret.eq (by simp[h3]))
 ·exact zJ.ifT (by simp[h2]) (zJ.ret.eq (by simp[h2]))
def iZ:Nat->List ByteArray->Int->(List (ByteArray×Int))->Option Bool
 |0,_,_,_=>none
 |qq+1,p0,v9,yE=>
 if decide (v9<(p0.length:Int))then
 zW p0 v9>>=fun x2=>
 if decide ((zEg yE x2)>0)then
 some false
 else
 iZ qq p0 (xL (v9+1)) (Z5 yE x2 (xL ((zEg yE x2)+1)))
 else
 some true
def zLL(qq:Nat)(p0:List ByteArray):Option Bool:=
 iZ qq p0 0 ([]:List (ByteArray×Int))
theorem zSi:∀qq:Nat,(∀ {p0 v9 yE r},iZ qq p0 v9 yE=some r->(∀j,dL 0 (pt 4021 f118) (sp j 22 0 [(3,.obj 0),(7,zV N2 p0 .no),(8,ai (p0.length:Int)),(9,ai v9)]) (⟨[(0,zCg yE)],1,[],0,[]⟩) (fQ 0 (nQ 0 f118 (ab r) [] 0) [.blk 0,.seq (pt 63 f118)]))):=by
 intro qq
 induction qq with
 |zero=>
  exact fun h=>nn h
 |succ qq ih=>
  intro p0 v9 yE r h
  rw[iZ]at h
  obtain⟨h1,h⟩|⟨h1,h⟩:=zU h
  obtain⟨x2,h3,h⟩:=zC h
  have k:=oL 1 (zUn yE x2)<|oA 0 (zYw (o:=.no) h3)<|oB 0 h1 o0
  obtain⟨h4,h⟩|⟨h4,h⟩:=zU h
  cases h
  exact fun j=>lF 0 [] (oB 0 h4 k)
  exact fun j=>lH 1 [] [0] [] [3,7,8,9] (oD (dS p0)<|oU 1 (zYu yE x2 (xL ((zEg yE x2)+1)))<|oL 0 (zUn yE x2)<|oB 0 h4 k) (ih h)
  cases h
  exact fun j=>lF 0 [] (oB 0 h1 o0)
theorem zYE{qq p0 r}(h:zLL qq p0=some r):Ct 118 [] [zV N2 p0 .no] (ab r) [] 0:=⟨by
 unfold zLL at h
 exact tH ⟨func118,rfl⟩ 1 [] [0] [] [3,7,8,9] (oD (dS p0) o0) (zSi _ h),⟨⟨tv,dS _⟩,tv⟩,zB,tv,zB⟩
def zLM(qq:Nat)(p0:Int):Option Bool:=
 if decide (p0≥0)then
 if decide (p0≤1114111)then
 if decide (p0<55296)then
 some true
 else
 some (decide (p0>57343))
 else
 some false
 else
 some false
theorem zSh:Qf 217 f217:=⟨func217,rfl⟩
theorem zSg{qq p0 r}(h:zLM qq p0=some r):Ct 217 [] [ai p0] (ab r) [] 0:=⟨by
 unfold zLM at h
 obtain⟨h1,h⟩|⟨h1,h⟩:=zU h
 have k:=oB 0 h1 o0
 obtain⟨h2,h⟩|⟨h2,h⟩:=zU h
 have k:=oB 0 h2 k
 obtain⟨h3,h⟩|⟨h3,h⟩:=zU h
 cases h
 exact tF zSh 0 [] (oB 0 h3 k)
 cases h
 exact tF zSh 1 [] (oB 0 h3 k)
 cases h
 exact tF zSh 0 [] (oB 0 h2 k)
 cases h
 exact tF zSh 0 [] (oB 0 h1 o0),⟨tv,tv⟩,zB,tv,zB⟩
def zOI(qq:Nat)(p0:U8):Option (Int×Int):=
 if decide (p0<128)then
 some (1,(xL (p0)))
 else
 if decide (p0≥192)then
 if decide (p0<224)then
 some (2,(xL ((IntKind.u8.wrap ((BitVec.ofInt (IntKind.bits .u8) p0 &&& BitVec.ofInt (IntKind.bits .u8) 31).toNat:Nat)))))
 else
 if decide (p0≥224)then
 if decide (p0<240)then
 some (3,(xL ((IntKind.u8.wrap ((BitVec.ofInt (IntKind.bits .u8) p0 &&& BitVec.ofInt (IntKind.bits .u8) 15).toNat:Nat)))))
 else
 if decide (p0≥240)then
 if decide (p0<248)then
 some (4,(xL ((IntKind.u8.wrap ((BitVec.ofInt (IntKind.bits .u8) p0 &&& BitVec.ofInt (IntKind.bits .u8) 7).toNat:Nat)))))
 else
 some (0,0)
 else
 some (0,0)
 else
 if decide (p0≥240)then
 if decide (p0<248)then
 some (4,(xL ((IntKind.u8.wrap ((BitVec.ofInt (IntKind.bits .u8) p0 &&& BitVec.ofInt (IntKind.bits .u8) 7).toNat:Nat)))))
 else
 some (0,0)
 else
 some (0,0)
 else
 if decide (p0≥224)then
 if decide (p0<240)then
 some (3,(xL ((IntKind.u8.wrap ((BitVec.ofInt (IntKind.bits .u8) p0 &&& BitVec.ofInt (IntKind.bits .u8) 15).toNat:Nat)))))
 else
 if decide (p0≥240)then
 if decide (p0<248)then
 some (4,(xL ((IntKind.u8.wrap ((BitVec.ofInt (IntKind.bits .u8) p0 &&& BitVec.ofInt (IntKind.bits .u8) 7).toNat:Nat)))))
 else
 some (0,0)
 else
 some (0,0)
 else
 if decide (p0≥240)then
 if decide (p0<248)then
 some (4,(xL ((IntKind.u8.wrap ((BitVec.ofInt (IntKind.bits .u8) p0 &&& BitVec.ofInt (IntKind.bits .u8) 7).toNat:Nat)))))
 else
 some (0,0)
 else
 some (0,0)
theorem cY:Qf 228 f228:=⟨func228,rfl⟩
theorem yBo{qq p0 r}(h:zOI qq p0=some r):Ct 228 [] [.val (.int .u8 p0)] (.tup [ai r.1,ai r.2]) [] 0:=⟨by
 unfold zOI at h
 obtain⟨h1,h⟩|⟨h1,h⟩:=zU h
 cases h
 exact tF cY 1 [] (oB 0 h1 o0)
 have k:=oB 0 h1 o0
 obtain⟨h2,h⟩|⟨h2,h⟩:=zU h
 have k:=oB 0 h2 k
 obtain⟨h3,h⟩|⟨h3,h⟩:=zU h
 cases h
 exact tF cY 2 [] (oB 0 h3 k)
 have k:=oB 0 h3 k
 obtain⟨h4,h⟩|⟨h4,h⟩:=zU h
 have k:=oB 0 h4 k
 obtain⟨h5,h⟩|⟨h5,h⟩:=zU h
 cases h
 exact tF cY 2 [] (oB 0 h5 k)
 have k:=oB 0 h5 k
 obtain⟨h6,h⟩|⟨h6,h⟩:=zU h
 have k:=oB 0 h6 k
 obtain⟨h7,h⟩|⟨h7,h⟩:=zU h
 cases h
 exact tF cY 2 [] (oB 0 h7 k)
 cases h
 exact tF cY 0 [] (oB 0 h7 k)
 cases h
 exact tF cY 0 [] (oB 0 h6 k)
 have k:=oB 0 h4 k
 obtain⟨h8,h⟩|⟨h8,h⟩:=zU h
 have k:=oB 0 h8 k
 obtain⟨h9,h⟩|⟨h9,h⟩:=zU h
 cases h
 exact tF cY 2 [] (oB 0 h9 k)
 cases h
 exact tF cY 0 [] (oB 0 h9 k)
 cases h
 exact tF cY 0 [] (oB 0 h8 k)
 have k:=oB 0 h2 k
 obtain⟨h10,h⟩|⟨h10,h⟩:=zU h
 have k:=oB 0 h10 k
 obtain⟨h11,h⟩|⟨h11,h⟩:=zU h
 cases h
 exact tF cY 2 [] (oB 0 h11 k)
 have k:=oB 0 h11 k
 obtain⟨h12,h⟩|⟨h12,h⟩:=zU h
 have k:=oB 0 h12 k
 obtain⟨h13,h⟩|⟨h13,h⟩:=zU h
 cases h
 exact tF cY 2 [] (oB 0 h13 k)
 cases h
 exact tF cY 0 [] (oB 0 h13 k)
 cases h
 exact tF cY 0 [] (oB 0 h12 k)
 have k:=oB 0 h10 k
 obtain⟨h14,h⟩|⟨h14,h⟩:=zU h
 have k:=oB 0 h14 k
 obtain⟨h15,h⟩|⟨h15,h⟩:=zU h
 cases h
 exact tF cY 2 [] (oB 0 h15 k)
 cases h
 exact tF cY 0 [] (oB 0 h15 k)
 cases h
 exact tF cY 0 [] (oB 0 h14 k),⟨tv,tv⟩,zB,⟨tv,tv,tv⟩,zB⟩
def zOJ(qq:Nat)(p0:Int):Option Int:=
 if decide (p0≥65536)then
 some 4
 else
 if decide (p0≥2048)then
 some 3
 else
 if decide (p0≥128)then
 some 2
 else
 some 1
theorem zSf:Qf 229 f229:=⟨func229,rfl⟩
theorem yBn{qq p0 r}(h:zOJ qq p0=some r):Ct 229 [] [ai p0] (ai r) [] 0:=⟨by
 unfold zOJ at h
 obtain⟨h1,h⟩|⟨h1,h⟩:=zU h
 cases h
 exact tF zSf 3 [] (oB 0 h1 o0)
 have k:=oB 0 h1 o0
 obtain⟨h2,h⟩|⟨h2,h⟩:=zU h
 cases h
 exact tF zSf 2 [] (oB 0 h2 k)
 have k:=oB 0 h2 k
 obtain⟨h3,h⟩|⟨h3,h⟩:=zU h
 cases h
 exact tF zSf 1 [] (oB 0 h3 k)
 cases h
 exact tF zSf 0 [] (oB 0 h3 k),⟨tv,tv⟩,zB,tv,zB⟩
def gA:Nat->ByteArray->Int->(Int×Int)->Int->Int->Option (Int×Int×Int)
 |0,_,_,_,_,_=>none
 |qq+1,p0,p1,r5,v8,v9=>
 if decide (v9<r5.1)then
 Z6 p0 (xL (p1+v9))>>=fun x10=>
 if (IntKind.u8.wrap ((BitVec.ofInt (IntKind.bits .u8) x10 &&& BitVec.ofInt (IntKind.bits .u8) 192).toNat:Nat)) != 128 then
 some (0,0,1)
 else
 gA qq p0 p1 r5 (IntKind.i64.wrap ((BitVec.ofInt (IntKind.bits .i64) (xL (v8*2 ^ (min (Int.toNat 6) (IntKind.bits .i64)))) ||| BitVec.ofInt (IntKind.bits .i64) (xL ((IntKind.u8.wrap ((BitVec.ofInt (IntKind.bits .u8) x10 &&& BitVec.ofInt (IntKind.bits .u8) 63).toNat:Nat))))).toNat:Nat)) (xL (v9+1))
 else
 zLM qq v8>>=fun r13=>
 if r13 then
 zOJ qq v8>>=fun r16=>
 if r16 != r5.1 then
 some (0,0,1)
 else
 some (v8,r5.1,0)
 else
 some (0,0,1)
def zOK(qq:Nat)(p0:ByteArray)(p1:Int):Option (Int×Int×Int):=
 if decide (p1<0)then
 some (0,0,1)
 else
 if decide (p1≥(p0.size:Int))then
 some (0,0,1)
 else
 Z6 p0 p1>>=fun x3=>
 zOI qq x3>>=fun r5=>
 if r5.1==0 then
 some (0,0,1)
 else
 if decide (r5.1>(xL ((p0.size:Int)-p1)))then
 some (0,0,1)
 else
 gA qq p0 p1 r5 r5.2 1
theorem zOL:Qf 215 f215:=⟨func215,rfl⟩
theorem zSe:∀qq:Nat,(∀ {p0 p1 r5 v8 v9 r},gA qq p0 p1 r5 v8 v9=some r->(∀j,dL 0 (pt 65461 f215) (sp j 66 0 [(0,at' p0),(1,ai p1),(7,ai r5.1),(8,ai v8),(9,ai v9)]) (⟨[],0,[],0,[]⟩) (fQ 0 (nQ 0 f215 (.tup [ai r.1,ai r.2.1,ai r.2.2]) [] 0) [.blk 0,.seq (pt 1023 f215)]))):=by
 intro qq
 induction qq with
 |zero=>
  exact fun h=>nn h
 |succ qq ih=>
  intro p0 p1 r5 v8 v9 r h
  rw[gA]at h
  obtain⟨h9,h⟩|⟨h9,h⟩:=zU h
  obtain⟨x10,h11,h⟩:=zC h
  have k:=oA 1 (zNY h11)<|oB 0 h9 o0
  obtain⟨h12,h⟩|⟨h12,h⟩:=zU h
  cases h
  exact fun j=>lF 0 [] (oB 1 h12 k)
  exact fun j=>lH 5 [] [] [] [0,1,7,8,9] (oB 1 h12 k) (ih h)
  obtain⟨r13,h14,h⟩:=zC h
  have k:=oB 0 h9 o0
  obtain⟨h15,h⟩|⟨h15,h⟩:=zU h
  obtain⟨r16,h17,h⟩:=zC h
  have k:=oC 1 [] (yBn h17)<|oK 0 [] h15 (zSg h14) k
  obtain⟨h18,h⟩|⟨h18,h⟩:=zU h
  cases h
  exact fun j=>lF 0 [] (oB 0 h18 k)
  cases h
  exact fun j=>lF 0 [] (oB 0 h18 k)
  cases h
  exact fun j=>lF 1 [] (oK 0 [] h15 (zSg h14) k)
theorem yBm{qq p0 p1 r}(h:zOK qq p0 p1=some r):Ct 215 [] [at' p0,ai p1] (.tup [ai r.1,ai r.2.1,ai r.2.2]) [] 0:=⟨by
 unfold zOK at h
 obtain⟨h1,h⟩|⟨h1,h⟩:=zU h
 cases h
 exact tF zOL 0 [] (oB 0 h1 o0)
 have k:=oB 0 h1 o0
 obtain⟨h2,h⟩|⟨h2,h⟩:=zU h
 cases h
 exact tF zOL 0 [] (oB 1 h2 k)
 obtain⟨x3,h4,h⟩:=zC h
 obtain⟨r5,h6,h⟩:=zC h
 have k:=oC 0 [] (yBo h6)<|oA 0 (zNY h4)<|oB 1 h2 k
 obtain⟨h7,h⟩|⟨h7,h⟩:=zU h
 cases h
 exact tF zOL 0 [] (oB 2 h7 k)
 have k:=oB 2 h7 k
 obtain⟨h8,h⟩|⟨h8,h⟩:=zU h
 cases h
 exact tF zOL 0 [] (oB 2 h8 k)
 exact tH zOL 0 [] [] [] [0,1,7,8,9] (oB 2 h8 k) (zSe _ h),⟨tv,tv,tv⟩,zB,⟨tv,tv,tv,tv⟩,zB⟩
def gB:Nat->ByteArray->zZ->Int->Option (zZ×Int×Int)
 |0,_,_,_=>none
 |qq+1,p0,v5,v6=>
 if decide (v6<(p0.size:Int))then
 zOK qq p0 v6>>=fun r3=>
 if r3.2.2 != 0 then
 some ([],v6,r3.2.2)
 else
 xF 8 v5 [r3.1]>>=fun l6=>
 gB qq p0 l6 (xL (v6+r3.2.1))
 else
 some (v5,(p0.size:Int),0)
def zOM(qq:Nat)(p0:ByteArray):Option (zZ×Int×Int):=
 if decide ((p0.size:Int)>65535)then
 some ([],0,2)
 else
 gB qq p0 [] 0
theorem zYF:Qf 185 f185:=⟨func185,rfl⟩
theorem zSd:∀qq:Nat,(∀ {p0 v5 v6 r},gB qq p0 v5 v6=some r->(∀j,dL 0 (pt 16309 f185) (sp j 38 0 [(0,at' p0),(5,zV yC v5 (.st 0 1)),(6,ai v6)]) (⟨[],0,[0],1,[]⟩) (fQ 0 (nQ 0 f185 (.tup [.sl (zG yC r.1) r.1.length .no,ai r.2.1,ai r.2.2]) [] 0) [.blk 0,.seq (pt 255 f185)]))):=by
 intro qq
 induction qq with
 |zero=>
  exact fun h=>nn h
 |succ qq ih=>
  intro p0 v5 v6 r h
  rw[gB]at h
  obtain⟨h2,h⟩|⟨h2,h⟩:=zU h
  obtain⟨r3,h4,h⟩:=zC h
  have k:=oC 0 [] (yBm h4)<|oB 1 h2 o0
  obtain⟨h5,h⟩|⟨h5,h⟩:=zU h
  cases h
  exact fun j=>lF 0 [] (oD (dI ([]:zZ))<|oB 3 h5 k)
  obtain⟨l6,h7,h⟩:=zC h
  exact fun j=>lH 1 [] [] [1] [0,5,6] (oD (dI l6)<|oP 1 (qF h7 (by simp))<|oB 3 h5 k) (ih h)
  cases h
  exact fun j=>lF 1 [] (oD (dI v5)<|oB 1 h2 o0)
theorem yBl{qq p0 r}(h:zOM qq p0=some r):Ct 185 [] [at' p0] (.tup [.sl (zG yC r.1) r.1.length .no,ai r.2.1,ai r.2.2]) [] 0:=⟨by
 unfold zOM at h
 obtain⟨h1,h⟩|⟨h1,h⟩:=zU h
 cases h
 exact tF zYF 0 [] (oD (dI ([]:zZ))<|oB 1 h1 o0)
 exact tH zYF 0 [(none,5,1)] [] [0] [0,5,6] (oD (dI ([]:zZ))<|oB 1 h1 o0) (zSd _ h),⟨tv,tv⟩,zB,⟨dI _,tv,tv,tv⟩,zB⟩
def zON(qq:Nat)(p0:ByteArray):Option Bool:=
 if p0.toList==(⟨#[100,97,116,97]⟩:ByteArray).toList then
 some true
 else
 if p0.toList==(⟨#[114,101,99,111,114,100]⟩:ByteArray).toList then
 some true
 else
 if p0.toList==(⟨#[100,101,102]⟩:ByteArray).toList then
 some true
 else
 if p0.toList==(⟨#[83,101,116]⟩:ByteArray).toList then
 some true
 else
 some false
theorem zOO:Qf 186 f186:=⟨func186,rfl⟩
theorem zYG{qq p0 r}(h:zON qq p0=some r):Ct 186 [] [at' p0] (ab r) [] 0:=⟨by
 unfold zON at h
 obtain⟨h1,h⟩|⟨h1,h⟩:=zU h
 cases h
 exact tF zOO 0 [] (oB 0 h1 o0)
 have k:=oB 0 h1 o0
 obtain⟨h2,h⟩|⟨h2,h⟩:=zU h
 cases h
 exact tF zOO 0 [] (oB 0 h2 k)
 have k:=oB 0 h2 k
 obtain⟨h3,h⟩|⟨h3,h⟩:=zU h
 cases h
 exact tF zOO 0 [] (oB 0 h3 k)
 have k:=oB 0 h3 k
 obtain⟨h4,h⟩|⟨h4,h⟩:=zU h
 cases h
 exact tF zOO 0 [] (oB 0 h4 k)
 cases h
 exact tF zOO 0 [] (oB 0 h4 k),⟨tv,tv⟩,zB,tv,zB⟩
def zOP(qq:Nat)(p0:Int):Option Bool:=
 if p0==40 then
 some true
 else
 if p0==41 then
 some true
 else
 if p0==123 then
 some true
 else
 if p0==125 then
 some true
 else
 if p0==58 then
 some true
 else
 if p0==61 then
 some true
 else
 if p0==46 then
 some true
 else
 if p0==44 then
 some true
 else
 if p0==59 then
 some true
 else
 if p0==124 then
 some true
 else
 if p0==92 then
 some true
 else
 if p0==45 then
 some true
 else
 if p0==62 then
 some true
 else
 if p0==955 then
 some true
 else
 if p0==8594 then
 some true
 else
 some false
theorem cZ:Qf 218 f218:=⟨func218,rfl⟩
theorem zYH{qq p0 r}(h:zOP qq p0=some r):Ct 218 [] [ai p0] (ab r) [] 0:=⟨by
 unfold zOP at h
 obtain⟨h1,h⟩|⟨h1,h⟩:=zU h
 cases h
 exact tF cZ 0 [] (oB 0 h1 o0)
 have k:=oB 0 h1 o0
 obtain⟨h2,h⟩|⟨h2,h⟩:=zU h
 cases h
 exact tF cZ 0 [] (oB 0 h2 k)
 have k:=oB 0 h2 k
 obtain⟨h3,h⟩|⟨h3,h⟩:=zU h
 cases h
 exact tF cZ 0 [] (oB 0 h3 k)
 have k:=oB 0 h3 k
 obtain⟨h4,h⟩|⟨h4,h⟩:=zU h
 cases h
 exact tF cZ 0 [] (oB 0 h4 k)
 have k:=oB 0 h4 k
 obtain⟨h5,h⟩|⟨h5,h⟩:=zU h
 cases h
 exact tF cZ 0 [] (oB 0 h5 k)
 have k:=oB 0 h5 k
 obtain⟨h6,h⟩|⟨h6,h⟩:=zU h
 cases h
 exact tF cZ 0 [] (oB 0 h6 k)
 have k:=oB 0 h6 k
 obtain⟨h7,h⟩|⟨h7,h⟩:=zU h
 cases h
 exact tF cZ 0 [] (oB 0 h7 k)
 have k:=oB 0 h7 k
 obtain⟨h8,h⟩|⟨h8,h⟩:=zU h
 cases h
 exact tF cZ 0 [] (oB 0 h8 k)
 have k:=oB 0 h8 k
 obtain⟨h9,h⟩|⟨h9,h⟩:=zU h
 cases h
 exact tF cZ 0 [] (oB 0 h9 k)
 have k:=oB 0 h9 k
 obtain⟨h10,h⟩|⟨h10,h⟩:=zU h
 cases h
 exact tF cZ 0 [] (oB 0 h10 k)
 have k:=oB 0 h10 k
 obtain⟨h11,h⟩|⟨h11,h⟩:=zU h
 cases h
 exact tF cZ 0 [] (oB 0 h11 k)
 have k:=oB 0 h11 k
 obtain⟨h12,h⟩|⟨h12,h⟩:=zU h
 cases h
 exact tF cZ 0 [] (oB 0 h12 k)
 have k:=oB 0 h12 k
 obtain⟨h13,h⟩|⟨h13,h⟩:=zU h
 cases h
 exact tF cZ 0 [] (oB 0 h13 k)
 have k:=oB 0 h13 k
 obtain⟨h14,h⟩|⟨h14,h⟩:=zU h
 cases h
 exact tF cZ 0 [] (oB 0 h14 k)
 have k:=oB 0 h14 k
 obtain⟨h15,h⟩|⟨h15,h⟩:=zU h
 cases h
 exact tF cZ 0 [] (oB 0 h15 k)
 cases h
 exact tF cZ 0 [] (oB 0 h15 k),⟨tv,tv⟩,zB,tv,zB⟩
def zLN(qq:Nat)(p0:Int):Option Bool:=
 if decide (p0<128)then
 if decide (p0≥97)then
 if decide (p0≤122)then
 some true
 else
 if decide (p0≥65)then
 some (decide (p0≤90))
 else
 some false
 else
 if decide (p0≥65)then
 some (decide (p0≤90))
 else
 some false
 else
 zLM qq p0>>=fun r6=>
 if r6 then
 zOP qq p0>>=fun r9=>
 if r9 then
 some false
 else
 if p0 != 160 then
 if decide (p0<8192)then
 some true
 else
 some (decide (p0>8303))
 else
 some false
 else
 some false
theorem zAE:Qf 188 f188:=⟨func188,rfl⟩
theorem zSc{qq p0 r}(h:zLN qq p0=some r):Ct 188 [] [ai p0] (ab r) [] 0:=⟨by
 unfold zLN at h
 obtain⟨h1,h⟩|⟨h1,h⟩:=zU h
 have k:=oB 0 h1 o0
 obtain⟨h2,h⟩|⟨h2,h⟩:=zU h
 have k:=oB 0 h2 k
 obtain⟨h3,h⟩|⟨h3,h⟩:=zU h
 cases h
 exact tF zAE 0 [] (oB 0 h3 k)
 have k:=oB 0 h3 k
 obtain⟨h4,h⟩|⟨h4,h⟩:=zU h
 cases h
 exact tF zAE 1 [] (oB 0 h4 k)
 cases h
 exact tF zAE 0 [] (oB 0 h4 k)
 have k:=oB 0 h2 k
 obtain⟨h5,h⟩|⟨h5,h⟩:=zU h
 cases h
 exact tF zAE 1 [] (oB 0 h5 k)
 cases h
 exact tF zAE 0 [] (oB 0 h5 k)
 obtain⟨r6,h7,h⟩:=zC h
 have k:=oB 0 h1 o0
 obtain⟨h8,h⟩|⟨h8,h⟩:=zU h
 obtain⟨r9,h10,h⟩:=zC h
 have k:=oK 0 [] h8 (zSg h7) k
 obtain⟨h11,h⟩|⟨h11,h⟩:=zU h
 cases h
 exact tF zAE 1 [] (oK 0 [] h11 (zYH h10) k)
 have k:=oK 0 [] h11 (zYH h10) k
 obtain⟨h12,h⟩|⟨h12,h⟩:=zU h
 have k:=oB 1 h12 k
 obtain⟨h13,h⟩|⟨h13,h⟩:=zU h
 cases h
 exact tF zAE 0 [] (oB 0 h13 k)
 cases h
 exact tF zAE 1 [] (oB 0 h13 k)
 cases h
 exact tF zAE 0 [] (oB 1 h12 k)
 cases h
 exact tF zAE 0 [] (oK 0 [] h8 (zSg h7) k),⟨tv,tv⟩,zB,tv,zB⟩
def zOQ(qq:Nat)(p0:Int):Option Bool:=
 if decide (p0≥48)then
 some (decide (p0≤57))
 else
 some false
theorem zYI:Qf 216 f216:=⟨func216,rfl⟩
theorem zYJ{qq p0 r}(h:zOQ qq p0=some r):Ct 216 [] [ai p0] (ab r) [] 0:=⟨by
 unfold zOQ at h
 obtain⟨h1,h⟩|⟨h1,h⟩:=zU h
 cases h
 exact tF zYI 1 [] (oB 0 h1 o0)
 cases h
 exact tF zYI 0 [] (oB 0 h1 o0),⟨tv,tv⟩,zB,tv,zB⟩
def zOR(qq:Nat)(p0:Int):Option Bool:=
 zLN qq p0>>=fun r1=>
 if r1 then
 some true
 else
 zOQ qq p0>>=fun r4=>
 if r4 then
 some true
 else
 if p0==95 then
 some true
 else
 some (p0==39)
theorem zSb:Qf 187 f187:=⟨func187,rfl⟩
theorem zYK{qq p0 r}(h:zOR qq p0=some r):Ct 187 [] [ai p0] (ab r) [] 0:=⟨by
 unfold zOR at h
 obtain⟨r1,h2,h⟩:=zC h
 obtain⟨h3,h⟩|⟨h3,h⟩:=zU h
 cases h
 exact tF zSb 0 [] (oK 0 [] h3 (zSc h2) o0)
 obtain⟨r4,h5,h⟩:=zC h
 have k:=oK 0 [] h3 (zSc h2) o0
 obtain⟨h6,h⟩|⟨h6,h⟩:=zU h
 cases h
 exact tF zSb 0 [] (oK 0 [] h6 (zYJ h5) k)
 have k:=oK 0 [] h6 (zYJ h5) k
 obtain⟨h7,h⟩|⟨h7,h⟩:=zU h
 cases h
 exact tF zSb 0 [] (oB 0 h7 k)
 cases h
 exact tF zSb 1 [] (oB 0 h7 k),⟨tv,tv⟩,zB,tv,zB⟩
def gC:Nat->(zZ×Int×Int)->Int->Option Bool
 |0,_,_=>none
 |qq+1,r1,v32=>
 if decide (v32<(r1.1.length:Int))then
 zW r1.1 v32>>=fun x10=>
 zOR qq x10>>=fun r12=>
 if r12 then
 gC qq r1 (xL (v32+1))
 else
 some false
 else
 zW r1.1 0>>=fun x15=>
 zLN qq x15>>=fun r17=>
 if r17 then
 some true
 else
 if x15==95 then
 some (decide ((r1.1.length:Int)>1))
 else
 some false
def zHM(qq:Nat)(p0:ByteArray):Option Bool:=
 zOM qq p0>>=fun r1=>
 if r1.2.2 != 0 then
 some false
 else
 if (r1.1.length:Int)==0 then
 some false
 else
 if decide ((p0.size:Int)>40)then
 some false
 else
 zON qq p0>>=fun r6=>
 if r6 then
 some false
 else
 gC qq r1 0
theorem zOS:Qf 152 f152:=⟨func152,rfl⟩
theorem zSa:∀qq:Nat,(∀ {r1 v32 r},gC qq r1 v32=some r->(∀j,dL 0 (pt 16309 f152) (sp j 55 0 [(3,zV yC r1.1 .no),(30,zV yC r1.1 .no),(31,ai (r1.1.length:Int)),(32,ai v32)]) (⟨[],0,[],0,[]⟩) (fQ 0 (nQ 0 f152 (ab r) [] 0) [.blk 0,.seq (pt 255 f152)]))):=by
 intro qq
 induction qq with
 |zero=>
  exact fun h=>nn h
 |succ qq ih=>
  intro r1 v32 r h
  rw[gC]at h
  obtain⟨h9,h⟩|⟨h9,h⟩:=zU h
  obtain⟨x10,h11,h⟩:=zC h
  obtain⟨r12,h13,h⟩:=zC h
  have k:=oA 0 (nI (o:=.no) h11)<|oB 0 h9 o0
  obtain⟨h14,h⟩|⟨h14,h⟩:=zU h
  exact fun j=>lH 2 [] [] [] [3,30,31,32] (oD (dI r1.1)<|oD (dI r1.1)<|oK 1 [] h14 (zYK h13) k) (ih h)
  cases h
  exact fun j=>lF 1 [] (oK 1 [] h14 (zYK h13) k)
  obtain⟨x15,h16,h⟩:=zC h
  obtain⟨r17,h18,h⟩:=zC h
  have k:=oA 0 (nI (o:=.no) h16)<|oB 0 h9 o0
  obtain⟨h19,h⟩|⟨h19,h⟩:=zU h
  cases h
  exact fun j=>lF 0 [] (oK 1 [] h19 (zSc h18) k)
  have k:=oA 0 (nI (o:=.no) h16)<|oK 1 [] h19 (zSc h18) k
  obtain⟨h20,h⟩|⟨h20,h⟩:=zU h
  cases h
  exact fun j=>lF 2 [] (oB 1 h20 k)
  cases h
  exact fun j=>lF 0 [] (oB 1 h20 k)
theorem zYL{qq p0 r}(h:zHM qq p0=some r):Ct 152 [] [at' p0] (ab r) [] 0:=⟨by
 unfold zHM at h
 obtain⟨r1,h2,h⟩:=zC h
 have k:=oC 0 [] (yBl h2) o0
 obtain⟨h3,h⟩|⟨h3,h⟩:=zU h
 cases h
 exact tF zOS 0 [] (oB 3 h3 k)
 have k:=oB 3 h3 k
 obtain⟨h4,h⟩|⟨h4,h⟩:=zU h
 cases h
 exact tF zOS 0 [] (oB 1 h4 k)
 have k:=oB 1 h4 k
 obtain⟨h5,h⟩|⟨h5,h⟩:=zU h
 cases h
 exact tF zOS 0 [] (oB 1 h5 k)
 obtain⟨r6,h7,h⟩:=zC h
 have k:=oB 1 h5 k
 obtain⟨h8,h⟩|⟨h8,h⟩:=zU h
 cases h
 exact tF zOS 0 [] (oK 0 [] h8 (zYG h7) k)
 exact tH zOS 1 [] [] [] [3,30,31,32] (oD (dI r1.1)<|oD (dI r1.1)<|oK 0 [] h8 (zYG h7) k) (zSa _ h),⟨tv,tv⟩,zB,tv,zB⟩
theorem zOT(c:Int):zN (fun q=>zOI q c) fun r=>0≤r.1∧r.1≤4:=by
 simp only[zOI]
 repeat' (first|exact zN.ret ⟨by simp,by simp⟩|refine zN.ite (fun _=>?_) (fun _=>?_))
theorem zLO(n:Int):zN (fun q=>zOJ q n) fun _=>True:=by
 simp only[zOJ]
 repeat' (first|exact zN.ret trivial|refine zN.ite (fun _=>?_) (fun _=>?_))
theorem s7(n:Int):zN (fun q=>zLM q n) fun _=>True:=by
 simp only[zLM]
 repeat' (first|exact zN.ret trivial|refine zN.ite (fun _=>?_) (fun _=>?_))
theorem zFs{s:ByteArray}{i:Int}(h0:0≤i)(h1:i<s.size):∃c,Z6 s i=some c:=by
 unfold Z6
 simp[h0,h1]
theorem zLP(s:ByteArray)(a:Int)(w:Int×Int)(ha:0≤a)(hs:s.size≤65535)(hw:a+w.1≤s.size)(hw1:1≤w.1):∀(m:Nat) (i n:Int),1≤i->i+m=w.1->zN (fun q=>gA q s a w n i) fun r=>r.2.2=0->r.2.1=w.1:=by
 intro m
 induction m with
 |zero=>
  intro i n hi hm
  refine zN.succ ?_
  simp only[gA]
  refine zN.ite (fun h=>absurd (of_decide_eq_true h) (by omega)) fun _=>(s7 n).bind fun b _=>?_
  refine zN.ite (fun _=>(zLO n).bind fun c _=>zN.ite (fun _=>zN.ret (by simp)) fun _=>zN.ret (by simp)) fun _=>zN.ret (by simp)
 |succ m ih=>
  intro i n hi hm
  refine zN.succ ?_
  simp only[gA]
  obtain⟨c,hc⟩:=zFs (s:=s) (i:=a+i) (by omega) (by omega)
  refine zN.ite (fun _=>zN.pure (a:=c) (by rw[yW (by omega) (by omega)];exact hc) (zN.ite (fun _=>zN.ret (by simp)) fun _=>?_)) fun h=>absurd (of_decide_eq_false h) (by omega)
  rw[yW (x:=i+1) (by omega) (by omega)]
  exact ih (i+1) _ (by omega) (by omega)
theorem zOU(s:ByteArray)(a:Int)(ha:0≤a)(hs:s.size≤65535):zN (fun q=>zOK q s a) fun r=>r.2.2=0->1≤r.2.1∧a+r.2.1≤s.size:=by
 simp only[zOK]
 refine zN.ite (fun _=>zN.ret (by simp)) fun _=>zN.ite (fun _=>zN.ret (by simp)) fun h=>?_
 have h1:=of_decide_eq_false h
 obtain⟨c,hc⟩:=zFs (s:=s) (i:=a) ha (by omega)
 refine zN.pure hc ((zOT c).bind fun w hw=>zN.ite (fun _=>zN.ret (by simp)) fun h2=>zN.ite (fun _=>zN.ret (by simp)) fun h3=>?_)
 have h4:=of_decide_eq_false h3
 rw[yW (by omega) (by omega)]at h4
 have h5:w.1≠0:=by simpa using h2
 refine(zLP s a w ha hs (by omega) (by omega) (w.1-1).toNat 1 w.2 (by omega) (by omega)).mono fun r hr h6=>?_
 have:=hr h6
 omega
theorem zOV(s:ByteArray)(hs:s.size≤65535):∀(m:Nat) (a:Int) (acc:List Int),0≤a->a≤s.size->(s.size:Int)-a≤m->(acc.length:Int)≤a->zN (fun q=>gB q s acc a) fun r=>r.1.length≤65535:=by
 intro m
 induction m with
 |zero=>
  intro a acc h0 h1 hm hl
  refine zN.succ ?_
  simp only[gB]
  refine zN.ite (fun h=>absurd (of_decide_eq_true h) (by omega)) fun _=>zN.ret (by show acc.length≤65535;omega)
 |succ m ih=>
  intro a acc h0 h1 hm hl
  refine zN.succ ?_
  simp only[gB]
  refine zN.ite (fun _=>(zOU s a h0 hs).bind fun r hr=>zN.ite (fun _=>zN.ret (by simp)) fun h=>zN.pure (yK (by simp<;>omega)) ?_) fun _=>zN.ret (by show acc.length≤65535;omega)
  have:=hr (by simpa using h)
  rw[yW (by omega) (by omega)]
  exact ih (a+r.2.1) _ (by omega) (by omega) (by omega) (by simp;omega)
theorem zSA(s:ByteArray):zN (fun q=>zOM q s) fun r=>r.1.length≤65535:=by
 simp only[zOM]
 refine zN.ite (fun _=>zN.ret (by simp)) fun h=>?_
 have:=of_decide_eq_false h
 exact zOV s (by omega) s.size 0 [] (by omega) (by omega) (by omega) (by simp)
theorem zOW(n:Int):zN (fun q=>zOP q n) fun _=>True:=by
 simp only[zOP]
 repeat' (first|exact zN.ret trivial|refine zN.ite (fun _=>?_) (fun _=>?_))
theorem s8(n:Int):zN (fun q=>zLN q n) fun _=>True:=by
 simp only[zLN]
 repeat' (first|exact zN.ret trivial|refine zN.ite (fun _=>?_) (fun _=>?_)|refine zN.bind (s7 n) (fun _ _=>?_)|refine zN.bind (zOW n) (fun _ _=>?_))
theorem zLQ(n:Int):zN (fun q=>zOQ q n) fun _=>True:=by
 simp only[zOQ]
 repeat' (first|exact zN.ret trivial|refine zN.ite (fun _=>?_) (fun _=>?_))
theorem zLR(n:Int):zN (fun q=>zOR q n) fun _=>True:=by
 simp only[zOR]
 repeat' (first|exact zN.ret trivial|refine zN.ite (fun _=>?_) (fun _=>?_)|refine zN.bind (s8 n) (fun _ _=>?_)|refine zN.bind (zLQ n) (fun _ _=>?_))
theorem zFr(s:ByteArray):zN (fun q=>zON q s) fun _=>True:=by
 simp only[zON]
 repeat' (first|exact zN.ret trivial|refine zN.ite (fun _=>?_) (fun _=>?_))
theorem S5(r1:List Int×Int×Int)(h0:0<r1.1.length)(h1:r1.1.length≤65535):∀(l:List Int) (v:Nat),r1.1.drop v=l->zN (fun q=>gC q r1 (v:Int)) fun _=>True
 | [],v,hd=>by
  refine zN.succ ?_
  simp only[gC]
  obtain⟨y,hy⟩:∃y,zW r1.1 0=some y:=⟨_,by unfold zW;rw[if_pos (by omega)];exact List.getElem?_eq_getElem h0⟩
  refine zN.ite (fun h=>?_) fun _=>zN.pure hy ?_
  ·rw[yH hd]at h;cases h
  ·repeat' (first|exact zN.ret trivial|refine zN.ite (fun _=>?_) (fun _=>?_)|refine zN.bind (s8 y) (fun _ _=>?_))
 |x::l,v,hd=>by
  have hlt:=yL hd
  refine zN.succ ?_
  simp only[gC]
  refine zN.ite (fun _=>zN.pure (yD hd) ((zLR x).bind fun b _=>zN.ite (fun _=>?_) fun _=>zN.ret trivial)) fun h=>?_
  ·rw[yA v (by omega)]
   exact S5 r1 h0 h1 l (v+1) (zY hd)
  ·rw[yG hd]at h;cases h
theorem zHN(s:ByteArray):zN (fun q=>zHM q s) fun _=>True:=by
 simp only[zHM]
 refine(zSA s).bind fun r hr=>zN.ite (fun _=>zN.ret trivial) fun _=>zN.ite (fun _=>zN.ret trivial) fun h=>zN.ite (fun _=>zN.ret trivial) fun _=>(zFr s).bind fun _ _=>zN.ite (fun _=>zN.ret trivial) fun _=>?_
 exact S5 r (by simp at h;exact List.length_pos_iff.2 h) hr r.1 0 rfl
theorem bK:∀(r l:List ByteArray) (v:Nat) (m:List (ByteArray×Int)),l.drop v=r->l.length≤65535->zN (fun q=>iZ q l (v:Int) m) fun _=>True
 | [],l,v,m,hd,hl=>by
  refine zN.succ ?_
  simp only[iZ]
  refine zN.ite (fun h=>?_) fun _=>zN.ret trivial
  rw[yH hd]at h;cases h
 |x::r,l,v,m,hd,hl=>by
  have hlt:=yL hd
  refine zN.succ ?_
  simp only[iZ]
  refine zN.ite (fun _=>zN.pure (yD hd) (zN.ite (fun _=>zN.ret trivial) fun _=>?_)) fun h=>?_
  ·rw[yA v (by omega)]
   exact bK r l (v+1) _ (zY hd) hl
  ·rw[yG hd]at h;cases h
theorem zCL(l:List ByteArray)(hl:l.length≤65535):zN (fun q=>zLL q l) fun _=>True:=by
 simp only[zLL]
 exact bK l l 0 _ rfl hl
def zLS(qq:Nat)(p0:Tm)(p1:Int):Option Bool:=
 zCB qq p0 0 p1>>=fun r1=>
 if r1 then
 zCC qq p0>>=fun r4=>
 some ((r4.length:Int)==0)
 else
 some false
theorem zYM:Qf 153 f153:=⟨func153,rfl⟩
theorem zSB{qq p0 p1 r}(h:zLS qq p0 p1=some r):Ct 153 [] [yY p0,ai p1] (ab r) [] 0:=⟨by
 unfold zLS at h
 obtain⟨r1,h2,h⟩:=zC h
 obtain⟨h3,h⟩|⟨h3,h⟩:=zU h
 obtain⟨r4,h5,h⟩:=zC h
 cases h
 exact tF zYM 2 [] (oC 1 [] (zOn h5)<|oK 1 [] h3 (zET h2) o0)
 cases h
 exact tF zYM 0 [] (oK 1 [] h3 (zET h2) o0),⟨⟨tv,tv,⟨tv,dT _⟩,tv⟩,tv,tv⟩,zB,tv,zB⟩
def zLT(qq:Nat)(p0:Tm):Option Bool:=
 if p0.k==0 then
 if p0.n==0 then
 some ((p0.sub.length:Int)==0)
 else
 some false
 else
 some false
theorem zVa:Qf 189 f189:=⟨func189,rfl⟩
theorem zSC{qq p0 r}(h:zLT qq p0=some r):Ct 189 [] [yY p0] (ab r) [] 0:=⟨by
 unfold zLT at h
 obtain⟨h1,h⟩|⟨h1,h⟩:=zU h
 have k:=oB 1 h1 o0
 obtain⟨h2,h⟩|⟨h2,h⟩:=zU h
 cases h
 exact tF zVa 3 [] (oB 1 h2 k)
 cases h
 exact tF zVa 0 [] (oB 1 h2 k)
 cases h
 exact tF zVa 0 [] (oB 1 h1 o0),⟨⟨tv,tv,⟨tv,dT _⟩,tv⟩,tv⟩,zB,tv,zB⟩
def gD:Nat->zZ->Int->Int->Option Bool
 |0,_,_,_=>none
 |qq+1,p0,p1,v9=>
 if decide (v9<(p0.length:Int))then
 zW p0 v9>>=fun x2=>
 if x2 != (xL (p1+v9))then
 some false
 else
 gD qq p0 p1 (xL (v9+1))
 else
 some true
def zLU(qq:Nat)(p0:zZ)(p1:Int):Option Bool:=
 gD qq p0 p1 0
theorem zSD:∀qq:Nat,(∀ {p0 p1 v9 r},gD qq p0 p1 v9=some r->(∀j,dL 0 (pt 949 f191) (sp j 20 0 [(1,ai p1),(7,zV yC p0 .no),(8,ai (p0.length:Int)),(9,ai v9)]) (⟨[],0,[],0,[]⟩) (fQ 0 (nQ 0 f191 (ab r) [] 0) [.blk 0,.seq (pt 15 f191)]))):=by
 intro qq
 induction qq with
 |zero=>
  exact fun h=>nn h
 |succ qq ih=>
  intro p0 p1 v9 r h
  rw[gD]at h
  obtain⟨h1,h⟩|⟨h1,h⟩:=zU h
  obtain⟨x2,h3,h⟩:=zC h
  have k:=oA 0 (nI (o:=.no) h3)<|oB 0 h1 o0
  obtain⟨h4,h⟩|⟨h4,h⟩:=zU h
  cases h
  exact fun j=>lF 0 [] (oB 2 h4 k)
  exact fun j=>lH 1 [] [] [] [1,7,8,9] (oD (dI p0)<|oB 2 h4 k) (ih h)
  cases h
  exact fun j=>lF 0 [] (oB 0 h1 o0)
theorem zSE{qq p0 p1 r}(h:zLU qq p0 p1=some r):Ct 191 [] [zV yC p0 .no,ai p1] (ab r) [] 0:=⟨by
 unfold zLU at h
 exact tH ⟨func191,rfl⟩ 1 [] [] [] [1,7,8,9] (oD (dI p0) o0) (zSD _ h),⟨⟨tv,dI _⟩,tv,tv⟩,zB,tv,zB⟩
def zLV(qq:Nat)(p0:yV)(p1 p2:Int):Option Bool:=
 if decide (p1≥0)then
 if decide (p1<(p0.length:Int))then
 zW p0 p1>>=fun x3=>
 some (x3.kind==p2)
 else
 some false
 else
 some false
theorem zVA:Qf 195 f195:=⟨func195,rfl⟩
theorem zSF{qq p0 p1 p2 r}(h:zLV qq p0 p1 p2=some r):Ct 195 [] [zV xJ p0 .no,ai p1,ai p2] (ab r) [] 0:=⟨by
 unfold zLV at h
 obtain⟨h1,h⟩|⟨h1,h⟩:=zU h
 have k:=oB 0 h1 o0
 obtain⟨h2,h⟩|⟨h2,h⟩:=zU h
 obtain⟨x3,h4,h⟩:=zC h
 cases h
 exact tF zVA 2 [] (oA 0 (wI (o:=.no) h4)<|oB 1 h2 k)
 cases h
 exact tF zVA 0 [] (oB 1 h2 k)
 cases h
 exact tF zVA 0 [] (oB 0 h1 o0),⟨⟨tv,dE _⟩,tv,tv,tv⟩,zB,tv,zB⟩
def gE:Nat->yV->Int->zZ->Int->Int->Option Bool
 |0,_,_,_,_,_=>none
 |qq+1,p0,p1,p2,p3,v13=>
 if decide (v13<(p2.length:Int))then
 zW p2 v13>>=fun x2=>
 zLV qq p0 x2 p3>>=fun r4=>
 if r4 then
 zW p0 x2>>=fun x7=>
 if x7.fam != p1 then
 some false
 else
 if x7.place != v13 then
 some false
 else
 gE qq p0 p1 p2 p3 (xL (v13+1))
 else
 some false
 else
 some true
def zLW(qq:Nat)(p0:yV)(p1:Int)(p2:zZ)(p3:Int):Option Bool:=
 gE qq p0 p1 p2 p3 0
theorem zSG:∀qq:Nat,(∀ {p0 p1 p2 p3 v13 r},gE qq p0 p1 p2 p3 v13=some r->(∀j,dL 0 (pt 949 f192) (sp j 42 0 [(0,zV xJ p0 .no),(1,ai p1),(3,ai p3),(11,zV yC p2 .no),(12,ai (p2.length:Int)),(13,ai v13)]) (⟨[],0,[],0,[]⟩) (fQ 0 (nQ 0 f192 (ab r) [] 0) [.blk 0,.seq (pt 15 f192)]))):=by
 intro qq
 induction qq with
 |zero=>
  exact fun h=>nn h
 |succ qq ih=>
  intro p0 p1 p2 p3 v13 r h
  rw[gE]at h
  obtain⟨h1,h⟩|⟨h1,h⟩:=zU h
  obtain⟨x2,h3,h⟩:=zC h
  obtain⟨r4,h5,h⟩:=zC h
  have k:=oA 0 (nI (o:=.no) h3)<|oB 0 h1 o0
  obtain⟨h6,h⟩|⟨h6,h⟩:=zU h
  obtain⟨x7,h8,h⟩:=zC h
  have k:=oA 1 (wI (o:=.no) h8)<|oK 1 [] h6 (zSF h5) k
  obtain⟨h9,h⟩|⟨h9,h⟩:=zU h
  cases h
  exact fun j=>lF 0 [] (oB 1 h9 k)
  have k:=oA 0 (wI (o:=.no) h8)<|oB 1 h9 k
  obtain⟨h10,h⟩|⟨h10,h⟩:=zU h
  cases h
  exact fun j=>lF 0 [] (oB 1 h10 k)
  exact fun j=>lH 1 [] [] [] [0,1,3,11,12,13] (oD (dI p2)<|oD (dE p0)<|oB 1 h10 k) (ih h)
  cases h
  exact fun j=>lF 1 [] (oK 1 [] h6 (zSF h5) k)
  cases h
  exact fun j=>lF 0 [] (oB 0 h1 o0)
theorem zSH{qq p0 p1 p2 p3 r}(h:zLW qq p0 p1 p2 p3=some r):Ct 192 [] [zV xJ p0 .no,ai p1,zV yC p2 .no,ai p3] (ab r) [] 0:=⟨by
 unfold zLW at h
 exact tH ⟨func192,rfl⟩ 1 [] [] [] [0,1,3,11,12,13] (oD (dI p2)<|oD (dE p0) o0) (zSG _ h),⟨⟨tv,dE _⟩,tv,⟨tv,dI _⟩,tv,tv⟩,zB,tv,zB⟩
def zOX(qq:Nat)(p0:yV)(p1:Int):Option Bool:=
 zW p0 p1>>=fun x1=>
 if decide (x1.pars<0)then
 some false
 else
 if decide (x1.inds<0)then
 some false
 else
 if decide (x1.pars>24)then
 some false
 else
 if decide (x1.inds>(xL (24-x1.pars)))then
 some false
 else
 if x1.fam != 0 then
 some false
 else
 if x1.place != 0 then
 some false
 else
 zLT qq x1.body>>=fun r9=>
 if r9 then
 s6 qq x1.type (xL (x1.pars+x1.inds))>>=fun r12=>
 if r12.2.2 != 0 then
 some false
 else
 if r12.2.1.k != 2 then
 some false
 else
 if r12.2.1.n != x1.level then
 some false
 else
 if decide ((x1.cons.length:Int)>16)then
 some false
 else
 zLU qq x1.cons (xL (p1+1))>>=fun r18=>
 if r18 then
 zLW qq p0 p1 x1.cons 2>>=fun r21=>
 if r21 then
 if (x1.fields.length:Int)==0 then
 some true
 else
 if x1.inds != 0 then
 some false
 else
 if (x1.cons.length:Int) != 1 then
 some false
 else
 zLU qq x1.fields (xL (p1+2))>>=fun r27=>
 if r27 then
 zLW qq p0 p1 x1.fields 4>>=fun r30=>
 if r30 then
 zW p0 (xL (p1+1))>>=fun x33=>
 zFv qq x33.type>>=fun r35=>
 if r35.2.2==0 then
 some ((r35.1.length:Int)==(xL (x1.pars+(x1.fields.length:Int))))
 else
 some false
 else
 some false
 else
 some false
 else
 some false
 else
 some false
 else
 some false
theorem jO:Qf 154 f154:=⟨func154,rfl⟩
theorem yBk{qq p0 p1 r}(h:zOX qq p0 p1=some r):Ct 154 [] [zV xJ p0 .no,ai p1] (ab r) [] 0:=⟨by
 unfold zOX at h
 obtain⟨x1,h2,h⟩:=zC h
 have k:=oA 0 (wI (o:=.no) h2) o0
 obtain⟨h3,h⟩|⟨h3,h⟩:=zU h
 cases h
 exact tF jO 0 [] (oB 3 h3 k)
 have k:=oB 3 h3 k
 obtain⟨h4,h⟩|⟨h4,h⟩:=zU h
 cases h
 exact tF jO 0 [] (oB 1 h4 k)
 have k:=oB 1 h4 k
 obtain⟨h5,h⟩|⟨h5,h⟩:=zU h
 cases h
 exact tF jO 0 [] (oB 1 h5 k)
 have k:=oB 1 h5 k
 obtain⟨h6,h⟩|⟨h6,h⟩:=zU h
 cases h
 exact tF jO 0 [] (oB 3 h6 k)
 have k:=oB 3 h6 k
 obtain⟨h7,h⟩|⟨h7,h⟩:=zU h
 cases h
 exact tF jO 0 [] (oB 1 h7 k)
 have k:=oB 1 h7 k
 obtain⟨h8,h⟩|⟨h8,h⟩:=zU h
 cases h
 exact tF jO 0 [] (oB 1 h8 k)
 obtain⟨r9,h10,h⟩:=zC h
 have k:=oB 1 h8 k
 obtain⟨h11,h⟩|⟨h11,h⟩:=zU h
 obtain⟨r12,h13,h⟩:=zC h
 have k:=oC 5 [] (zOF h13)<|oK 1 [] h11 (zSC h10) k
 obtain⟨h14,h⟩|⟨h14,h⟩:=zU h
 cases h
 exact tF jO 0 [] (oB 4 h14 k)
 have k:=oB 4 h14 k
 obtain⟨h15,h⟩|⟨h15,h⟩:=zU h
 cases h
 exact tF jO 0 [] (oB 1 h15 k)
 have k:=oB 1 h15 k
 obtain⟨h16,h⟩|⟨h16,h⟩:=zU h
 cases h
 exact tF jO 0 [] (oB 2 h16 k)
 have k:=oB 2 h16 k
 obtain⟨h17,h⟩|⟨h17,h⟩:=zU h
 cases h
 exact tF jO 0 [] (oB 2 h17 k)
 obtain⟨r18,h19,h⟩:=zC h
 have k:=oB 2 h17 k
 obtain⟨h20,h⟩|⟨h20,h⟩:=zU h
 obtain⟨r21,h22,h⟩:=zC h
 have k:=oK 2 [] h20 (zSE h19) k
 obtain⟨h23,h⟩|⟨h23,h⟩:=zU h
 have k:=oK 2 [] h23 (zSH h22) k
 obtain⟨h24,h⟩|⟨h24,h⟩:=zU h
 cases h
 exact tF jO 0 [] (oB 3 h24 k)
 have k:=oB 3 h24 k
 obtain⟨h25,h⟩|⟨h25,h⟩:=zU h
 cases h
 exact tF jO 0 [] (oB 1 h25 k)
 have k:=oB 1 h25 k
 obtain⟨h26,h⟩|⟨h26,h⟩:=zU h
 cases h
 exact tF jO 0 [] (oB 2 h26 k)
 obtain⟨r27,h28,h⟩:=zC h
 have k:=oB 2 h26 k
 obtain⟨h29,h⟩|⟨h29,h⟩:=zU h
 obtain⟨r30,h31,h⟩:=zC h
 have k:=oK 2 [] h29 (zSE h28) k
 obtain⟨h32,h⟩|⟨h32,h⟩:=zU h
 obtain⟨x33,h34,h⟩:=zC h
 obtain⟨r35,h36,h⟩:=zC h
 have k:=oC 1 [] (zSm h36)<|oA 2 (wI (o:=.no) h34)<|oK 2 [] h32 (zSH h31) k
 obtain⟨h37,h⟩|⟨h37,h⟩:=zU h
 cases h
 exact tF jO 6 [] (oB 4 h37 k)
 cases h
 exact tF jO 0 [] (oB 4 h37 k)
 cases h
 exact tF jO 1 [] (oK 2 [] h32 (zSH h31) k)
 cases h
 exact tF jO 1 [] (oK 2 [] h29 (zSE h28) k)
 cases h
 exact tF jO 1 [] (oK 2 [] h23 (zSH h22) k)
 cases h
 exact tF jO 1 [] (oK 2 [] h20 (zSE h19) k)
 cases h
 exact tF jO 1 [] (oK 1 [] h11 (zSC h10) k),⟨⟨tv,dE _⟩,tv,tv⟩,zB,tv,zB⟩
def eK(e:yI):Prop:=e.type.Ok∧e.body.Ok∧e.cons.length≤1152921504606846976∧e.fields.length≤1152921504606846976
def zE:yI:=yI.mk 0 ⟨#[]⟩ zT zT 0 0 0 0 0 [] []
def ent(l:List yI)(n:Int):yI:=(l[n.toNat]?).getD zE
theorem yT{l:List yI}{n:Int}(h0:0≤n)(h1:n<l.length):zW l n=some (ent l n):=by
 unfold zW ent
 rw[if_pos h0]
 have:n.toNat<l.length:=by omega
 rw[List.getElem?_eq_getElem this];rfl
theorem mH{l:List yI}{n:Int}(h0:0≤n)(h1:n<l.length):ent l n∈l:=by
 unfold ent
 have:n.toNat<l.length:=by omega
 rw[List.getElem?_eq_getElem this]
 exact List.getElem_mem this
def aN(l:List yI)(n kind:Int):Bool:=decide (0≤n)&&decide (n<l.length)&&(ent l n).kind==kind
theorem tM{l:List yI}{n kind:Int}(h:aN l n kind=true):0≤n∧n<l.length∧(ent l n).kind=kind:=by
 unfold aN at h
 simp only[Bool.and_eq_true,decide_eq_true_eq,beq_iff_eq]at h
 exact⟨h.1.1,h.1.2,h.2⟩
theorem zUi(l:List yI)(n kind:Int):zJ (fun q=>zLV q l n kind) (aN l n kind):=by
 simp only[zLV]
 unfold aN
 by_cases h0:n≥0
 ·refine zJ.ifT (decide_eq_true h0) ?_
  by_cases h1:n<l.length
  ·exact zJ.ifT (decide_eq_true h1) (zJ.pure (yT h0 h1) (zJ.ret.eq (by simp[show 0≤n from h0,h1])))
  ·exact zJ.ifF (decide_eq_false h1) (zJ.ret.eq (by simp[h1]))
 ·exact zJ.ifF (decide_eq_false h0) (zJ.ret.eq (by simp[show ¬0≤n from h0]))
def bL(t:Tm):Bool:=t.k==0&&t.n==0&&(t.sub.length:Int)==0
theorem zCM(t:Tm):zJ (fun q=>zLT q t) (bL t):=by
 refine zJ.mk fun q=>?_
 unfold zLT bL
 by_cases h1:t.k=0<;>by_cases h2:t.n=0<;>by_cases h3:t.sub.length=0<;>simp[h1,h2,h3]
def tZ(t:Tm)(n:Int):Bool:=rC t 0 n&&(qL t 8 8).isEmpty
theorem s9(t:Tm)(n:Int)(ho:t.Ok):zJ (fun q=>zLS q t n) (tZ t n):=by
 simp only[zLS]
 refine(eI t 0 n ho).bind ?_
 unfold tZ
 by_cases h:rC t 0 n=true
 ·refine zJ.ifT h ((eH t ho).bind (zJ.ret.eq ?_))
  have hs:zH t=true:=by
   unfold rC at h;simp at h;exact h.1.1
  unfold eG
  rw[if_pos hs,h,Bool.true_and,Bool.eq_iff_iff]
  simp only[beq_iff_eq,List.isEmpty_iff]
  constructor
  ·intro h6
   have h6':vG (qL t 8 8)=[]:=List.length_eq_zero_iff.1 (by omega)
   refine List.eq_nil_iff_forall_not_mem.2 fun x hx=>?_
   rw[←nJ,h6']at hx;cases hx
  ·intro h6
   rw[h6];rfl
 ·exact zJ.ifF (by simpa using h) (zJ.ret.eq (by simp[h]))
def zAF:List Int->Int->Bool
 | [],_=>true
 |n::r,m=>n==m&&zAF r (m+1)
theorem zFq(l:List Int)(f:Int)(hf:0≤f∧f≤1048576)(hl:l.length≤1152921504606846976):∀(r:List Int) (v:Nat),l.drop v=r->zJ (fun q=>gD q l f (v:Int)) (zAF r (f+v))
 | [],v,hd=>by
  refine zJ.succ ?_
  simp only[gD]
  exact zJ.ifF (yH hd) zJ.ret
 |n::r,v,hd=>by
  have hlt:=yL hd
  refine zJ.succ ?_
  simp only[gD]
  refine zJ.ifT (yG hd) (zJ.pure (yD hd) ?_)
  rw[yW (x:=f+v) (by omega) (by omega),zAF]
  by_cases h:n=f+v
  ·refine zJ.ifF (by simp[h]) ?_
   rw[yA v (by omega)]
   exact(zFq l f hf hl r (v+1) (zY hd)).eq (by rw[show f+((v+1:Nat):Int)=f+v+1 by omega];simp[h])
  ·exact zJ.ifT (by simp[h]) (zJ.ret.eq (by simp[h]))
theorem zJC(l:List Int)(f:Int)(hf:0≤f∧f≤1048576)(hl:l.length≤1152921504606846976):zJ (fun q=>zLU q l f) (zAF l f):=by
 simp only[zLU]
 exact(zFq l f hf hl l 0 rfl).eq (by simp)
def p6(l:List yI)(of kind:Int):List Int->Int->Bool
 | [],_=>true
 |n::r,k=>aN l n kind&&(ent l n).fam==of&&(ent l n).place==k&&p6 l of kind r (k+1)
theorem S6(l:List yI)(of kind:Int)(p:List Int)(hp:p.length≤1152921504606846976):∀(r:List Int) (v:Nat),p.drop v=r->zJ (fun q=>gE q l of p kind (v:Int)) (p6 l of kind r v)
 | [],v,hd=>by
  refine zJ.succ ?_
  simp only[gE]
  exact zJ.ifF (yH hd) zJ.ret
 |n::r,v,hd=>by
  have hlt:=yL hd
  refine zJ.succ ?_
  simp only[gE]
  refine zJ.ifT (yG hd) (zJ.pure (yD hd) ((zUi l n kind).bind ?_))
  rw[p6]
  by_cases h:aN l n kind=true
  ·have hs:=tM h
   refine zJ.ifT h (zJ.pure (yT hs.1 hs.2.1) ?_)
   by_cases h2:(ent l n).fam=of
   ·refine zJ.ifF (by simp[h2]) ?_
    by_cases h3:(ent l n).place=v
    ·refine zJ.ifF (by simp[h3]) ?_
     rw[yA v (by omega)]
     exact(S6 l of kind p hp r (v+1) (zY hd)).eq (by simp[h,h2,h3])
    ·exact zJ.ifT (by simp[h3]) (zJ.ret.eq (by simp[h3]))
   ·exact zJ.ifT (by simp[h2]) (zJ.ret.eq (by simp[h2]))
  ·exact zJ.ifF (by simpa using h) (zJ.ret.eq (by simp[h]))
theorem p7(l:List yI)(of kind:Int)(p:List Int)(hp:p.length≤1152921504606846976):zJ (fun q=>zLW q l of p kind) (p6 l of kind p 0):=by
 simp only[zLW]
 exact(S6 l of kind p hp p 0 rfl).eq (by simp)
def zHO(x:yI):Bool:=
 decide (0≤x.pars)&&decide (0≤x.inds)&&decide (x.pars≤24)&&decide (x.inds≤24-x.pars)&&x.fam==0&&x.place==0&&bL x.body
def zLX(x:yI):Bool:=
 (uX x.type (x.pars+x.inds)).2.2==0&&(uX x.type (x.pars+x.inds)).2.1.k==2&&(uX x.type (x.pars+x.inds)).2.1.n==x.level
def zFp(l:List yI)(i:Int)(x:yI):Bool:=
 decide (x.cons.length≤16)&&zAF x.cons (i+1)&&p6 l i 2 x.cons 0
def zVB(l:List yI)(i:Int)(x:yI):Bool:=
 x.inds==0&&decide (x.cons.length=1)&&zAF x.fields (i+2)&&p6 l i 4 x.fields 0&&(yX (ent l (i+1)).type).2.2==0&&((yX (ent l (i+1)).type).1.length:Int)==x.pars+x.fields.length
def mI(l:List yI)(i:Int):Bool:=
 zHO (ent l i)&&zLX (ent l i)&&zFp l i (ent l i)&&(decide ((ent l i).fields.length=0)||zVB l i (ent l i))
theorem zLY(l:List yI)(i:Int)(h0:0≤i)(h1:i<l.length)(hl:l.length≤65535)(he:∀e∈l,eK e):zJ (fun q=>zOX q l i) (mI l i):=by
 simp only[zOX]
 refine zJ.pure (yT h0 h1) ?_
 have hx:=he _ (mH h0 h1)
 have hfl:(ent l i).fields.length≤1152921504606846976:=hx.2.2.2
 unfold mI
 by_cases hA:zHO (ent l i)=true
 ·have hA':=hA
  unfold zHO at hA'
  simp only[Bool.and_eq_true,decide_eq_true_eq,beq_iff_eq]at hA'
  obtain⟨⟨⟨⟨⟨⟨a1,a2⟩,a3⟩,a4⟩,a5⟩,a6⟩,a7⟩:=hA'
  refine zJ.ifF (decide_eq_false (by omega)) (zJ.ifF (decide_eq_false (by omega)) (zJ.ifF (decide_eq_false (by omega)) (zJ.ifF (decide_eq_false (by rw[yW (by omega) (by omega)];omega)) (zJ.ifF (by simp[a5]) (zJ.ifF (by simp[a6]) (((zCM _).eq a7).bind (zJ.ifT rfl ?_)))))))
  rw[yW (by omega) (by omega)]
  refine(F3 (ent l i).type _ hx.1).bind ?_
  rw[hA]
  by_cases b1:(uX (ent l i).type ((ent l i).pars+(ent l i).inds)).2.2=0
  ·refine zJ.ifF (by simp[b1]) ?_
   by_cases b2:(uX (ent l i).type ((ent l i).pars+(ent l i).inds)).2.1.k=2
   ·refine zJ.ifF (by simp[b2]) ?_
    by_cases b3:(uX (ent l i).type ((ent l i).pars+(ent l i).inds)).2.1.n=(ent l i).level
    ·refine zJ.ifF (by simp[b3]) ?_
     have hB:zLX (ent l i)=true:=by unfold zLX;simp[b1,b2,b3]
     rw[hB]
     by_cases c1:(ent l i).cons.length≤16
     ·refine zJ.ifF (decide_eq_false (by omega)) ?_
      rw[yW (x:=i+1) (by omega) (by omega)]
      refine(zJC (ent l i).cons (i+1) (by omega) (by omega)).bind ?_
      by_cases c2:zAF (ent l i).cons (i+1)=true
      ·refine zJ.ifT c2 ((p7 l i 2 (ent l i).cons (by omega)).bind ?_)
       by_cases c3:p6 l i 2 (ent l i).cons 0=true
       ·refine zJ.ifT c3 ?_
        have hC:zFp l i (ent l i)=true:=by unfold zFp;simp[c1,c2,c3]
        rw[hC]
        by_cases d0:(ent l i).fields.length=0
        ·exact zJ.ifT (by simp[d0]) (zJ.ret.eq (by simp[d0]))
        ·refine zJ.ifF (by have h:((ent l i).fields.length:Int)≠0:=(by omega);simpa using h) ?_
         rw[show decide ((ent l i).fields.length=0)=false by simp[d0]]
         simp only[Bool.true_and,Bool.false_or]
         unfold zVB
         by_cases d1:(ent l i).inds=0
         ·refine zJ.ifF (by simp[d1]) ?_
          by_cases d2:(ent l i).cons.length=1
          ·refine zJ.ifF (by simp[d2]) ?_
           rw[yW (x:=i+2) (by omega) (by omega)]
           refine(zJC (ent l i).fields (i+2) (by omega) hx.2.2.2).bind ?_
           by_cases d3:zAF (ent l i).fields (i+2)=true
           ·refine zJ.ifT d3 ((p7 l i 4 (ent l i).fields hx.2.2.2).bind ?_)
            by_cases d4:p6 l i 4 (ent l i).fields 0=true
            ·have hi:i+1<l.length:=by
              obtain⟨y,hy⟩:∃y,(ent l i).cons=[y]:=by
               rcases hc:(ent l i).cons with _|⟨y,_|⟨z,r⟩⟩<;>rw[hc]at d2<;>simp at d2
               exact⟨y,rfl⟩
              rw[hy]at c2 c3
              rw[zAF]at c2
              rw[p6]at c3
              simp only[Bool.and_eq_true,beq_iff_eq]at c2 c3
              have:=tM c3.1.1.1
              omega
             refine zJ.ifT d4 (zJ.pure (yT (by omega) hi) ((F4 _ (he _ (mH (by omega) hi)).1).bind ?_))
             by_cases d5:(yX (ent l (i+1)).type).2.2=0
             ·refine zJ.ifT (by simp[d5]) (zJ.ret.eq ?_)
              rw[yW (x:=(ent l i).pars+((ent l i).fields.length:Int)) (by omega) (by omega)]
              simp[d1,d2,d3,d4,d5]
             ·exact zJ.ifF (by simp[d5]) (zJ.ret.eq (by simp[d5]))
            ·exact zJ.ifF (by simpa using d4) (zJ.ret.eq (by simp[d4]))
           ·exact zJ.ifF (by simpa using d3) (zJ.ret.eq (by simp[d3]))
          ·exact zJ.ifT (by simp<;>omega) (zJ.ret.eq (by simp[d2]))
         ·exact zJ.ifT (by simp[d1]) (zJ.ret.eq (by simp[d1]))
       ·refine zJ.ifF (by simpa using c3) (zJ.ret.eq ?_)
        unfold zFp;simp[c3]
      ·refine zJ.ifF (by simpa using c2) (zJ.ret.eq ?_)
       unfold zFp;simp[c2]
     ·refine zJ.ifT (decide_eq_true (by omega)) (zJ.ret.eq ?_)
      unfold zFp;simp[c1]
    ·refine zJ.ifT (by simp[b3]) (zJ.ret.eq ?_)
     unfold zLX;simp[b3]
   ·refine zJ.ifT (by simp[b2]) (zJ.ret.eq ?_)
    unfold zLX;simp[b2]
  ·refine zJ.ifT (by simp[b1]) (zJ.ret.eq ?_)
   unfold zLX;simp[b1]
 ·rw[show zHO (ent l i)=false by simpa using hA]
  unfold zHO at hA
  simp only[Bool.and_eq_true,decide_eq_true_eq,beq_iff_eq]at hA
  by_cases a1:(ent l i).pars<0
  ·exact zJ.ifT (decide_eq_true a1) zJ.ret
  refine zJ.ifF (decide_eq_false a1) ?_
  by_cases a2:(ent l i).inds<0
  ·exact zJ.ifT (decide_eq_true a2) zJ.ret
  refine zJ.ifF (decide_eq_false a2) ?_
  by_cases a3:(ent l i).pars>24
  ·exact zJ.ifT (decide_eq_true a3) zJ.ret
  refine zJ.ifF (decide_eq_false a3) ?_
  rw[yW (x:=24-(ent l i).pars) (by omega) (by omega)]
  by_cases a4:(ent l i).inds>24-(ent l i).pars
  ·exact zJ.ifT (decide_eq_true a4) zJ.ret
  refine zJ.ifF (decide_eq_false a4) ?_
  by_cases a5:(ent l i).fam=0
  ·refine zJ.ifF (by simp[a5]) ?_
   by_cases a6:(ent l i).place=0
   ·refine zJ.ifF (by simp[a6]) ((zCM _).bind ?_)
    by_cases a7:bL (ent l i).body=true
    ·exact absurd ⟨⟨⟨⟨⟨⟨by omega,by omega⟩,by omega⟩,by omega⟩,a5⟩,a6⟩,a7⟩ hA
    ·exact zJ.ifF (by simpa using a7) zJ.ret
   ·exact zJ.ifT (by simp[a6]) zJ.ret
  ·exact zJ.ifT (by simp[a5]) zJ.ret
def zLZ(qq:Nat)(p0:yV)(p1:Int):Option Bool:=
 zW p0 p1>>=fun x1=>
 zLV qq p0 x1.fam 1>>=fun r3=>
 if r3 then
 if decide (x1.fam≥p1)then
 some false
 else
 zW p0 x1.fam>>=fun x7=>
 if x1.pars != x7.pars then
 some false
 else
 zLT qq x1.body>>=fun r10=>
 if r10 then
 if x1.inds != 0 then
 some false
 else
 if x1.level != 0 then
 some false
 else
 if decide ((xL ((x1.cons.length:Int)+(x1.fields.length:Int)))>0)then
 some false
 else
 if x1.kind==4 then
 if decide (x1.place≥0)then
 if decide (x1.place<(x7.fields.length:Int))then
 zW x7.fields x1.place>>=fun x19=>
 some (x19==p1)
 else
 some false
 else
 some false
 else
 if decide (x1.place≥0)then
 if decide (x1.place<(x7.cons.length:Int))then
 zW x7.cons x1.place>>=fun x23=>
 some (x23==p1)
 else
 some false
 else
 some false
 else
 some false
 else
 some false
theorem O4:Qf 193 f193:=⟨func193,rfl⟩
theorem zSI{qq p0 p1 r}(h:zLZ qq p0 p1=some r):Ct 193 [] [zV xJ p0 .no,ai p1] (ab r) [] 0:=⟨by
 unfold zLZ at h
 obtain⟨x1,h2,h⟩:=zC h
 obtain⟨r3,h4,h⟩:=zC h
 have k:=oA 0 (wI (o:=.no) h2) o0
 obtain⟨h5,h⟩|⟨h5,h⟩:=zU h
 have k:=oK 3 [] h5 (zSF h4) k
 obtain⟨h6,h⟩|⟨h6,h⟩:=zU h
 cases h
 exact tF O4 0 [] (oB 2 h6 k)
 obtain⟨x7,h8,h⟩:=zC h
 have k:=oA 2 (wI (o:=.no) h8)<|oB 2 h6 k
 obtain⟨h9,h⟩|⟨h9,h⟩:=zU h
 cases h
 exact tF O4 0 [] (oB 1 h9 k)
 obtain⟨r10,h11,h⟩:=zC h
 have k:=oB 1 h9 k
 obtain⟨h12,h⟩|⟨h12,h⟩:=zU h
 have k:=oK 1 [] h12 (zSC h11) k
 obtain⟨h13,h⟩|⟨h13,h⟩:=zU h
 cases h
 exact tF O4 0 [] (oB 2 h13 k)
 have k:=oB 2 h13 k
 obtain⟨h14,h⟩|⟨h14,h⟩:=zU h
 cases h
 exact tF O4 0 [] (oB 1 h14 k)
 have k:=oB 1 h14 k
 obtain⟨h15,h⟩|⟨h15,h⟩:=zU h
 cases h
 exact tF O4 0 [] (oB 5 h15 k)
 have k:=oA 1 (wI (o:=.no) h8)<|oB 5 h15 k
 obtain⟨h16,h⟩|⟨h16,h⟩:=zU h
 have k:=oA 1 (wI (o:=.no) h8)<|oB 2 h16 k
 obtain⟨h17,h⟩|⟨h17,h⟩:=zU h
 have k:=oB 2 h17 k
 obtain⟨h18,h⟩|⟨h18,h⟩:=zU h
 obtain⟨x19,h20,h⟩:=zC h
 cases h
 exact tF O4 2 [] (oA 1 (nI (o:=.no) h20)<|oB 2 h18 k)
 cases h
 exact tF O4 0 [] (oB 2 h18 k)
 cases h
 exact tF O4 0 [] (oB 2 h17 k)
 have k:=oB 2 h16 k
 obtain⟨h21,h⟩|⟨h21,h⟩:=zU h
 have k:=oB 1 h21 k
 obtain⟨h22,h⟩|⟨h22,h⟩:=zU h
 obtain⟨x23,h24,h⟩:=zC h
 cases h
 exact tF O4 2 [] (oA 1 (nI (o:=.no) h24)<|oB 2 h22 k)
 cases h
 exact tF O4 0 [] (oB 2 h22 k)
 cases h
 exact tF O4 0 [] (oB 1 h21 k)
 cases h
 exact tF O4 1 [] (oK 1 [] h12 (zSC h11) k)
 cases h
 exact tF O4 1 [] (oK 3 [] h5 (zSF h4) k),⟨⟨tv,dE _⟩,tv,tv⟩,zB,tv,zB⟩
def zOY(qq:Nat)(p0:yV)(p1:Int):Option Bool:=
 zW p0 p1>>=fun x1=>
 zFv qq x1.type>>=fun r3=>
 zLZ qq p0 p1>>=fun r5=>
 if r5 then
 if r3.2.2==0 then
 if decide ((r3.1.length:Int)≥x1.pars)then
 zW p0 x1.fam>>=fun x10=>
 zHL qq r3.2.1 x1.fam x1.pars x10.inds (r3.1.length:Int)>>=fun r12=>
 some r12
 else
 some false
 else
 some false
 else
 some false
theorem zSJ:Qf 155 f155:=⟨func155,rfl⟩
theorem yBj{qq p0 p1 r}(h:zOY qq p0 p1=some r):Ct 155 [] [zV xJ p0 .no,ai p1] (ab r) [] 0:=⟨by
 unfold zOY at h
 obtain⟨x1,h2,h⟩:=zC h
 obtain⟨r3,h4,h⟩:=zC h
 obtain⟨r5,h6,h⟩:=zC h
 have k:=oC 1 [] (zSm h4)<|oA 0 (wI (o:=.no) h2) o0
 obtain⟨h7,h⟩|⟨h7,h⟩:=zU h
 have k:=oK 4 [] h7 (zSI h6) k
 obtain⟨h8,h⟩|⟨h8,h⟩:=zU h
 have k:=oA 1 (wI (o:=.no) h2)<|oB 0 h8 k
 obtain⟨h9,h⟩|⟨h9,h⟩:=zU h
 obtain⟨x10,h11,h⟩:=zC h
 obtain⟨r12,h13,h⟩:=zC h
 obtain rfl:=sj h
 exact tF zSJ 0 [] (oC 2 [] (zSj h13)<|oA 1 (wI (o:=.no) h11)<|oA 1 (wI (o:=.no) h2)<|oA 1 (wI (o:=.no) h2)<|oA 1 (wI (o:=.no) h2)<|oB 1 h9 k)
 obtain rfl:=sj h
 exact tF zSJ 0 [] (oB 1 h9 k)
 obtain rfl:=sj h
 exact tF zSJ 0 [] (oB 0 h8 k)
 obtain rfl:=sj h
 exact tF zSJ 0 [] (oK 4 [] h7 (zSI h6) k),⟨⟨tv,dE _⟩,tv,tv⟩,zB,tv,zB⟩
def zOZ(qq:Nat)(p0:yV)(p1:Int):Option Bool:=
 zLZ qq p0 p1>>=fun r1=>
 if r1 then
 zW p0 p1>>=fun x4=>
 s6 qq x4.type (xL (x4.pars+1))>>=fun r6=>
 if r6.2.2==0 then
 zW r6.1 x4.pars>>=fun x9=>
 zHL qq x9 x4.fam x4.pars 0 x4.pars>>=fun r11=>
 some r11
 else
 some false
 else
 some false
theorem zVC:Qf 156 f156:=⟨func156,rfl⟩
theorem yBi{qq p0 p1 r}(h:zOZ qq p0 p1=some r):Ct 156 [] [zV xJ p0 .no,ai p1] (ab r) [] 0:=⟨by
 unfold zOZ at h
 obtain⟨r1,h2,h⟩:=zC h
 obtain⟨h3,h⟩|⟨h3,h⟩:=zU h
 obtain⟨x4,h5,h⟩:=zC h
 obtain⟨r6,h7,h⟩:=zC h
 have k:=oC 2 [] (zOF h7)<|oA 1 (wI (o:=.no) h5)<|oA 1 (wI (o:=.no) h5)<|oK 0 [] h3 (zSI h2) o0
 obtain⟨h8,h⟩|⟨h8,h⟩:=zU h
 obtain⟨x9,h10,h⟩:=zC h
 obtain⟨r11,h12,h⟩:=zC h
 obtain rfl:=sj h
 exact tF zVC 0 [] (oC 1 [] (zSj h12)<|oA 1 (wI (o:=.no) h5)<|oA 1 (wI (o:=.no) h5)<|oA 1 (wI (o:=.no) h5)<|oA 1 (xH (o:=.no) h10)<|oA 0 (wI (o:=.no) h5)<|oB 4 h8 k)
 obtain rfl:=sj h
 exact tF zVC 0 [] (oB 4 h8 k)
 obtain rfl:=sj h
 exact tF zVC 1 [] (oK 0 [] h3 (zSI h2) o0),⟨⟨tv,dE _⟩,tv,tv⟩,zB,tv,zB⟩
end Go.Proofs.YtfbkefchjcocmaaGreat
