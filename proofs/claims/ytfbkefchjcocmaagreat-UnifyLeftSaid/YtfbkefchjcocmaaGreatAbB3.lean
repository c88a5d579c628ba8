/- Parts of the proof that the law returns true: walks of the functions, plain laws. -/
import Derived.ChangeArms
import Derived.ChangeShapes
import Derived.IntWalk
import Derived.Test.YtfbkefchjcocmaaGreatAbB2
set_option linter.unusedVariables false
set_option linter.unusedSimpArgs false
set_option linter.unusedSectionVars false
namespace Go.Ab
open Go Go.RowKit
structure Sub (G G':Gh) (p:Nat->Prop):Prop where
 F:G'.F=G.F
 ρ:∀i b,p i->G.ρ i=some b->G'.ρ i=some b
 τ:∀k q,G.τ k=some q->G'.τ k=some q
 L:∀b o,G.L b o->G'.L b o
 N:∀i,p i->G.N i->G'.N i
mutual
theorem V.less{G G':Gh}{w:World}{p:Nat->Prop}(h:Sub G G' p):∀(a:AV) (u:Value),a.fine p->V G w a u->V G' w a u
 | .val v,u,_,hv=>by simpa only[V]using hv
 | .agg cs,u,hi,hv=>by
  simp only[V,AV.fine]at hi hv ⊢
  obtain⟨vs,rfl,hl⟩:=hv
  exact⟨vs,rfl,VL.less h cs vs hi hl⟩
 | .tup cs,u,hi,hv=>by
  simp only[V,AV.fine]at hi hv ⊢
  obtain⟨vs,rfl,hl⟩:=hv
  exact⟨vs,rfl,VL.less h cs vs hi hl⟩
 | .sl es n o,u,hi,hv=>by
  simp only[V,AV.fine]at hi hv ⊢
  obtain⟨cap,hc,hh⟩:=hv
  refine⟨cap,hc,?_⟩
  rcases hh with⟨rfl,h2,h3,h4,h5⟩|⟨b,off,hu,hcells,ho⟩
  ·exact .inl ⟨rfl,h2,h3,h4,h5.mono h.τ⟩
  ·exact .inr ⟨b,off,hu,VC.data h.L es b off hi hcells,ho.mono h.F h.τ⟩
 | .ip es,u,hi,hv=>by
  simp only[V,AV.fine]at hi hv ⊢
  obtain⟨b,off,hu,hcells⟩:=hv
  exact⟨b,off,hu,VC.data h.L es b off hi hcells⟩
 | .mp i off,u,hi,hv=>by
  simp only[V,AV.fine]at hi hv ⊢
  obtain⟨b,hb,hu⟩:=hv
  exact⟨b,h.ρ _ _ hi hb,hu⟩
 | .ms i off n c sz,u,hi,hv=>by
  simp only[V,AV.fine]at hi hv ⊢
  rcases hv with⟨b,cap,hb,hu⟩|⟨hn,hN,hu⟩
  ·exact .inl ⟨b,cap,h.ρ _ _ hi hb,hu⟩
  ·exact .inr ⟨hn,h.N _ hi hN,hu⟩
 | .obj i,u,hi,hv=>by
  simp only[V,AV.fine]at hi hv ⊢
  obtain⟨b,hb,hu⟩:=hv
  exact⟨b,h.ρ _ _ hi hb,hu⟩
 | .clo g fs cs,u,hi,hv=>by
  simp only[V,AV.fine]at hi hv ⊢
  obtain⟨l,r',hu,h1,h2⟩:=hv
  exact⟨l,r',hu,VL.less h fs l hi.1 h1,VL.less h cs r' hi.2 h2⟩
theorem VL.less{G G':Gh}{w:World}{p:Nat->Prop}(h:Sub G G' p):∀(as0:List AV) (us:List Value),AV.fineL p as0->VL G w as0 us->VL G' w as0 us
 | [],[],_,_=>by simp only[VL]
 |a::as0,u::us,hi,hv=>by
  simp only[VL,AV.fineL]at hi hv ⊢
  exact⟨V.less h a u hi.1 hv.1,VL.less h as0 us hi.2 hv.2⟩
 | [],_::_,_,hv=>by simp only[VL]at hv
 |_::_,[],_,hv=>by simp only[VL]at hv
end
mutual
def AV.fz(m:Nat)(cs:List AV):AV->AV
 | .val v=>.val v
 | .agg l=>.agg (AV.fzL m cs l)
 | .tup l=>.tup (AV.fzL m cs l)
 | .sl es n o=>.sl es n o
 | .ip es=>.ip es
 | .mp i off=>.mp i off
 | .ms i off n c sz=>bif Nat.beq i m then .sl (cs.drop off) n .no else .ms i off n c sz
 | .obj i=>.obj i
 | .clo g a b=>.clo g a b
def AV.fzL(m:Nat)(cs:List AV):List AV->List AV
 | []=>[]
 |a::l=>AV.fz m cs a::AV.fzL m cs l
end
mutual
def AV.fzOk(m:Nat):AV->Prop
 | .val _=>True
 | .agg l=>AV.fzOkL m l
 | .tup l=>AV.fzOkL m l
 | .sl es _ _=>AV.DataL es
 | .ip es=>AV.DataL es
 | .mp i _=>i<m
 | .ms i off _ _ _=>(i=m∧off=0)∨i<m
 | .obj i=>i<m
 | .clo _ a b=>AV.fineL (fun i=>i<m) a∧AV.fineL (fun i=>i<m) b
def AV.fzOkL(m:Nat):List AV->Prop
 | []=>True
 |a::l=>AV.fzOk m a∧AV.fzOkL m l
end
theorem zCa:∀(l:List AV) (n:Nat),AV.DataL l->AV.DataL (l.drop n)
 |l,0,h=>by simpa using h
 | [],_+1,_=>trivial
 |_::l,n+1,h=>by simpa using zCa l n h.2
mutual
theorem AV.fz_fine{m:Nat}{cs:List AV}(hc:AV.DataL cs):∀a:AV,a.fzOk m->(a.fz m cs).fine (fun i=>i<m)
 | .val _,_=>trivial
 | .agg l,h=>AV.fzL_fine hc l h
 | .tup l,h=>AV.fzL_fine hc l h
 | .sl _ _ _,h=>h
 | .ip _,h=>h
 | .mp _ _,h=>h
 | .ms i off n c sz,h=>by
  simp only[AV.fz]
  cases hb:Nat.beq i m with
  |true=>exact zCa _ _ hc
  |false=>
   rcases h with⟨rfl,_⟩|h
   ·simp at hb
   ·exact h
 | .obj _,h=>h
 | .clo _ _ _,h=>h
theorem AV.fzL_fine{m:Nat}{cs:List AV}(hc:AV.DataL cs):∀l:List AV,AV.fzOkL m l->AV.fineL (fun i=>i<m) (AV.fzL m cs l)
 | [],_=>trivial
 |a::l,h=>⟨AV.fz_fine hc a h.1,AV.fzL_fine hc l h.2⟩
end
mutual
theorem V.fz{G G':Gh}{w:World}{m:Nat}{cs:List AV}(h:Sub G G' (fun i=>i<m))(hm:∀b,G.ρ m=some b->VC G' w cs b 0)(hc:G.N m->cs=[]):∀(a:AV) (u:Value),a.fzOk m->V G w a u->V G' w (a.fz m cs) u
 | .val v,u,_,hv=>by simpa only[AV.fz,V]using hv
 | .agg l,u,hi,hv=>by
  simp only[V,AV.fzOk,AV.fz]at hi hv ⊢
  obtain⟨vs,rfl,hl⟩:=hv
  exact⟨vs,rfl,VL.fz h hm hc l vs hi hl⟩
 | .tup l,u,hi,hv=>by
  simp only[V,AV.fzOk,AV.fz]at hi hv ⊢
  obtain⟨vs,rfl,hl⟩:=hv
  exact⟨vs,rfl,VL.fz h hm hc l vs hi hl⟩
 | .sl es n o,u,hi,hv=>V.less h (.sl es n o) u hi hv
 | .ip es,u,hi,hv=>V.less h (.ip es) u hi hv
 | .mp i off,u,hi,hv=>V.less h (.mp i off) u hi hv
 | .ms i off n c sz,u,hi,hv=>by
  simp only[AV.fz]
  cases hb:Nat.beq i m with
  |false=>
   rcases hi with⟨rfl,_⟩|hi
   ·simp at hb
   ·exact V.less h (.ms i off n c sz) u hi hv
  |true=>
   have:=Nat.eq_of_beq_eq_true hb
   subst this
   simp only[V,cond_true]at hv ⊢
   rcases hi with⟨_,e0⟩|hi
   ·subst e0
    rcases hv with⟨b,cap,hb',hn,o,rfl,hro⟩|⟨⟨e1,_⟩,hN,p,rfl⟩
    ·rcases hro with⟨eo,_⟩|⟨_,h0⟩
     ·subst eo
      exact⟨cap,Nat.le_trans hn.1 hn.2,.inr ⟨b,_,rfl,by simpa using hm b hb',trivial⟩⟩
     ·exact absurd h0 (Nat.lt_irrefl _)
    ·rw[hc hN]
     subst e1
     exact⟨0,Nat.le_refl 0,.inl ⟨rfl,(by first|rfl|trivial),(by first|rfl|trivial),rfl,trivial⟩⟩
   ·exact absurd hi (Nat.lt_irrefl _)
 | .obj i,u,hi,hv=>V.less h (.obj i) u hi hv
 | .clo g a b,u,hi,hv=>V.less h (.clo g a b) u hi hv
theorem VL.fz{G G':Gh}{w:World}{m:Nat}{cs:List AV}(h:Sub G G' (fun i=>i<m))(hm:∀b,G.ρ m=some b->VC G' w cs b 0)(hc:G.N m->cs=[]):∀(as0:List AV) (us:List Value),AV.fzOkL m as0->VL G w as0 us->VL G' w (AV.fzL m cs as0) us
 | [],[],_,_=>by simp only[AV.fzL,VL]
 |a::as0,u::us,hi,hv=>by
  simp only[VL,AV.fzOkL,AV.fzL]at hi hv ⊢
  exact⟨V.fz h hm hc a u hi.1 hv.1,VL.fz h hm hc as0 us hi.2 hv.2⟩
 | [],_::_,_,hv=>by simp only[VL]at hv
 |_::_,[],_,hv=>by simp only[VL]at hv
end
def zHn(m:Nat):List (Nat×Blk)->List (Nat×Blk)
 | []=>[]
 |p::l=>bif Nat.blt p.1 m then p::zHn m l else zHn m l
theorem gJ{m:Nat}:∀(l:List (Nat×Blk)) (i:Nat),look (zHn m l) i=if i<m then look l i else none
 | [],i=>by simp[zHn,look]
 |p::l,i=>by
  simp only[zHn]
  cases hb:Nat.blt p.1 m with
  |true=>
   have hb':p.1<m:=Nat.le_of_ble_eq_true hb
   simp only[cond_true,look,gJ l i]
   cases he:Nat.beq i p.1 with
   |true=>have:=Nat.eq_of_beq_eq_true he;simp only[cond_true];rw[if_pos (by omega)]
   |false=>simp only[cond_false]
  |false=>
   have hb':¬p.1<m:=by intro h;rw[Nat.blt,Nat.ble_eq_true_of_le h]at hb;cases hb
   simp only[cond_false,look,gJ l i]
   cases he:Nat.beq i p.1 with
   |true=>have:=Nat.eq_of_beq_eq_true he;rw[if_neg (by omega),if_neg (by omega)]
   |false=>simp only[cond_false]
def Blk.alive:Blk->Bool
 | .dead=>false
 |_=>true
theorem vZ.freeze{P:Program}{f:FuncId}{H0 H1:List Blk}{args cs:List AV}{res:AV}{nst:Nat}(h:vZ P f H0 args res (H1++[.row cs]) nst)(hle:H0.length≤H1.length)(hH1:∀X∈H1,X.fine (fun i=>i<H1.length))(hcs:AV.DataL cs)(hr:res.fzOk H1.length)(hnd:H1.all Blk.alive=true) :
  vZ P f H0 args (res.fz H1.length cs) H1 nst:=by
 intro G0 W cargs hB hR hv
 refine(h G0 W cargs hB hR hv).mono ?_
 rintro e W' ⟨u,G',s',rfl,hE,hR',hu,hb,ho⟩
 have hm:look s'.H H1.length=some (.row cs):=hb H1.length _ (by simp)
 have hm':(yH (Emp 0) s').H H1.length=some (.row cs):=by rw[yS];exact hm
 have real:∀b,G'.ρ H1.length=some b->¬G'.F b∧∃us:List Value,us.length=cs.length∧VL G' W' cs us∧∀i (hi:i<us.length),W'.cell? ⟨b,0+i,none⟩=some us[i]:=by
  intro b hρ
  obtain⟨hF,vs,T,hh,us,rest,hus,hvl⟩:=hR'.blk H1.length b _ hρ hm'
  refine⟨hF,us,VL.length _ _ hvl,hvl,fun i hi=>?_⟩
  have:vs[i]? = some us[i]:=by
   have h1:vs.toList[i]? = some us[i]:=by rw[hus,List.getElem?_append_left hi,List.getElem?_eq_getElem hi]
   simpa using h1
  rw[Nat.zero_add]
  simp[World.cell?,hh,this]
 have hNn:G'.N H1.length->cs=[]:=fun e=>Blk.void_row (hR'.Nvoid e hm')
 let G'':Gh:={ G' with ρ:=fun i=>if i<H1.length then G'.ρ i else none,L:=fun c o=>G'.L c o∨(G'.ρ H1.length=some c∧o<cs.length),N:=fun i=>i<H1.length∧G'.N i }
 have hS:Sub G' G'' (fun i=>i<H1.length):=⟨rfl,fun i b hi e=>by show (if i<H1.length then G'.ρ i else none)=_;rw[if_pos hi];exact e,fun _ _ e=>e,fun _ _ e=>.inl e,fun _ hi e=>⟨hi,e⟩⟩
 have hC:∀b,G'.ρ H1.length=some b->VC G'' W' cs b 0:=fun b hρ=>by
  obtain⟨_,us,hlen,hvl,hcell⟩:=real b hρ
  exact VC.of_cells cs us b 0 (VL.data hS.L cs us hcs hvl) (fun i hi=>.inr ⟨hρ,by omega⟩) hcell
 have hσ:∀i,(yH (Emp 0) { s' with H:=zHn H1.length s'.H }).H i=if i<H1.length then look s'.H i else none:=fun i=>by rw[yS];exact gJ _ _
 have hσ':∀i,(yH (Emp 0) s').H i=look s'.H i:=fun i=>yS _ _
 refine⟨u,G'',{ s' with H:=zHn H1.length s'.H },rfl,⟨fun i c hc=>?_,hE.τ,fun c o e=>.inl (hE.L c o e),hE.cell,hE.w0,hE.F,fun c o e=>?_,hE.room,fun i e=>?_⟩,⟨fun i=>?_,⟨H1.length,fun i hi=>?_⟩,fun i j c hi hj=>?_,fun i c X hi hX=>?_,fun c o hL=>?_,hR'.τns,fun k hk=>?_,hR'.ownd,hR'.below,hR'.base⟩,V.fz hS hC hNn _ _ hr hu,fun i X hX=>?_,ho⟩
 ·have hi:i<H0.length:=Nat.lt_of_not_le fun hge=>by rw[(hB.ρ i hge).1]at hc;cases hc
  show (if i<H1.length then G'.ρ i else none)=_
  rw[if_pos (by omega)];exact hE.ρ i c hc
 ·rcases e with e|⟨e,_⟩
  ·exact hE.newL c o e
  ·exact .inr (by rw[←hE.F];exact(real c e).1)
 ·have hi:i<H0.length:=Nat.lt_of_not_le fun hge=>(hB.ρ i hge).2 e
  exact⟨by omega,hE.N i e⟩
 ·rw[hσ]
  show mY (if i<H1.length then G'.ρ i else none) (i<H1.length∧G'.N i) _
  have hd:=hR'.dom i
  rw[hσ']at hd
  split
  ·rename_i hi
   exact⟨fun q=>(hd.1 q).imp (fun r=>⟨hi,r⟩) id,fun q=>⟨(hd.2.1 q).1,fun r=>(hd.2.1 q).2 r.2⟩,fun r=>hd.2.2 r.2⟩
  ·rename_i hi
   exact⟨fun _=>.inr rfl,fun _=>⟨rfl,fun r=>hi r.1⟩,fun r=>absurd r.1 hi⟩
 ·rw[hσ,if_neg (by omega)]
 ·have hi':(if i<H1.length then G'.ρ i else none)=some c:=hi
  have hj':(if j<H1.length then G'.ρ j else none)=some c:=hj
  split at hi'
  ·split at hj'
   ·rename_i h1 h2
    rw[hσ,hσ,if_pos h1,if_pos h2,←hσ',←hσ']
    exact hR'.inj i j c hi' hj'
   ·cases hj'
  ·cases hi'
 ·have hi':(if i<H1.length then G'.ρ i else none)=some c:=hi
  split at hi'
  ·rename_i hlt
   rw[hσ,if_pos hlt]at hX
   obtain⟨q1,q2⟩:=hR'.blk i c X hi' (by rw[hσ'];exact hX)
   refine⟨q1,?_⟩
   have hget:(H1++[.row cs])[i]? = some H1[i]:=by rw[List.getElem?_append_left hlt,List.getElem?_eq_getElem hlt]
   have:=hb i _ hget
   rw[this]at hX;cases hX
   have hf:=hH1 _ (List.getElem_mem hlt)
   cases hY:H1[i]with
   |cells ds=>
    rw[hY]at q2 hf
    obtain⟨vs',T',q3,q4⟩:=q2
    exact⟨vs',T',q3,q4.imp fun us=>VL.less hS _ us hf⟩
   |obj o=>rw[hY]at q2;exact q2
   |row ds=>
    rw[hY]at q2 hf
    obtain⟨vs',T',q3,q4⟩:=q2
    exact⟨vs',T',q3,q4.imp fun us=>VL.data hS.L _ us hf⟩
   |dead=>rw[hY]at q2;exact q2
  ·cases hi'
 ·rcases hL with hL|⟨hρ,hlt⟩
  ·obtain⟨q1,q2⟩:=hR'.live c o hL
   refine⟨q1,fun i hi=>?_⟩
   have hi':(if i<H1.length then G'.ρ i else none)=some c:=hi
   split at hi'
   ·exact q2 i hi'
   ·cases hi'
  ·obtain⟨_,us,hlen,hvl,hcell⟩:=real c hρ
   refine⟨⟨us[o]'(by omega),?_⟩,fun i hi=>?_⟩
   ·have:=hcell o (by omega)
    rwa[Nat.zero_add]at this
   ·have hi':(if i<H1.length then G'.ρ i else none)=some c:=hi
    split at hi'
    ·rename_i hlt'
     have hi2:look s'.H i=some H1[i]:=hb i _ (by rw[List.getElem?_append_left hlt',List.getElem?_eq_getElem hlt'])
     rcases hR'.inj i H1.length c hi' hρ with this|this|this
     ·omega
     ·rw[hσ',hi2]at this
      have h3:=List.all_eq_true.1 hnd _ (List.getElem_mem hlt')
      rw[Option.some.inj this]at h3
      cases h3
     ·rw[hσ',hm]at this;cases this
    ·cases hi'
 ·obtain⟨c,f1,t,q1,q2|⟨q2,q3,q4,q5⟩⟩:=hR'.own k hk
  ·exact⟨c,f1,t,q1,.inl q2⟩
  ·refine⟨c,f1,t,q1,.inr ⟨q2,fun i hi=>?_,fun o h1 h2 hL=>?_,q5⟩⟩
   ·have hi':(if i<H1.length then G'.ρ i else none)=some c:=hi
    split at hi'
    ·exact q3 i hi'
    ·cases hi'
   ·rcases hL with hL|⟨hρ,_⟩
    ·exact q4 o h1 h2 hL
    ·exact q3 _ hρ
 ·have hlt:=(List.getElem?_eq_some_iff.1 hX).1
  show look (zHn H1.length s'.H) i=some X
  rw[gJ,if_pos hlt]
  exact hb i X (by rw[List.getElem?_append_left hlt];exact hX)
theorem CT.freeze{P:Program}{f:FuncId}{H0 H1:List Blk}{args cs:List AV}{res res':AV}{nst:Nat}(h:CT P f H0 args res (H1++[.row cs]) nst)(hle:H0.length≤H1.length)(hH1:∀X∈H1,X.fine (fun i=>i<H1.length))(hcs:AV.DataL cs)(hr:res.fzOk H1.length)(hnd:H1.all Blk.alive=true)(e:res.fz H1.length cs=res') :
  CT P f H0 args res' H1 nst:=by
 subst e
 exact⟨h.tri.freeze hle hH1 hcs hr hnd,h.args,h.H0,AV.fz_fine hcs _ hr,hH1⟩
theorem zEd{G0 G':Gh}{W W':World}{s':LSt}{u:Value}(sz:Nat)(hB:lD (0:Nat) G0)(hE:Ext G0 W G' W')(hR':yD G' (yH (Emp 0) s') W')(hu:∃cap b o,(cap=0)∧(u = .slice (eA u) 0 0∨u = .slice (some ⟨b,o,none⟩) 0 cap)) :
  ∃u' G'' s'',Ending.returned u = .returned u'∧Ext G0 W G'' W'∧yD G'' (yH (Emp 0) s'') W'∧V G'' W' (.sl [] 0 (.st 0 sz)) u'∧(∀i X,([]:List Blk)[i]? = some X->look s''.H i=some X)∧∀k,k<1->s''.own.any (Nat.beq k)=true:=by
 let G'':Gh:={ G' with ρ:=fun _=>none,τ:=fun k=>if k=0 then some (0,1,0)else none,N:=fun _=>False }
 refine⟨u,G'',{ s' with H:=[],own:=[0],ns:=1 },rfl,⟨fun i c hc=>?_,fun k r hk=>?_,hE.L,hE.cell,hE.w0,hE.F,hE.newL,fun i c m hc=>?_,fun i e=>absurd e (hB.ρ i (Nat.zero_le _)).2⟩,⟨fun i=>?_,⟨0,fun i _=>?_⟩,fun i j c hi=>?_,fun i c X hi=>?_,fun c o hL=>?_,fun k hk=>?_,fun k hk=>?_,fun k k' _ _ _ _ _ hk hk'=>?_,hR'.below,hR'.base⟩,?_,fun i X hX=>?_,fun k hk=>?_⟩
 ·rw[(hB.ρ i (Nat.zero_le _)).1]at hc;cases hc
 ·rw[hB.τ k]at hk;cases hk
 ·rw[(hB.ρ i (Nat.zero_le _)).1]at hc;cases hc
 ·rw[yS];exact⟨fun _=>.inr rfl,fun _=>⟨rfl,id⟩,fun e=>e.elim⟩
 ·rw[yS];rfl
 ·cases hi
 ·cases hi
 ·exact⟨(hR'.live c o hL).1,fun i hi=>by cases hi⟩
 ·have hk1:1≤k:=hk
  show (if k=0 then some (0,1,0)else none)=none
  rw[if_neg (by omega)]
 ·rw[tB]at hk
  have e:k=0:=by simpa using hk
  subst e
  exact⟨0,1,0,rfl,.inl (by decide)⟩
 ·rw[tB]at hk hk'
  have e:k=0:=by simpa using hk
  have e':k'=0:=by simpa using hk'
  intros;omega
 ·obtain⟨cap,b,o,rfl,hu|rfl⟩:=hu
  ·simp only[V]
   exact⟨0,Nat.le_refl 0,.inl ⟨(by trivial),(by trivial),(by trivial),hu,_,rfl⟩⟩
  ·simp only[V]
   exact⟨0,Nat.le_refl 0,.inl ⟨(by trivial),(by trivial),(by trivial),(by first|rfl|trivial),_,rfl⟩⟩
 ·cases hX
 ·have:k=0:=by omega
  subst this;rfl
theorem vZ.freezeS{P:Program}{f:FuncId}{args cs:List AV}{n c sz:Nat}(h:vZ P f [] args (.ms 0 0 n c sz) [.row cs] 0)(hcs:AV.DataL cs)(hl:cs.length=n*sz) :
  vZ P f [] args (.sl cs n (.st 0 sz)) [] 1:=by
 intro G0 W cargs hB hR hv
 refine(h G0 W cargs hB hR hv).mono ?_
 rintro e W' ⟨u,G',s',rfl,hE,hR',hu,hb,-⟩
 have hm:look s'.H 0=some (.row cs):=hb 0 _ (by simp)
 have hm':(yH (Emp 0) s').H 0=some (.row cs):=by rw[yS];exact hm
 simp only[V]at hu
 rcases hu with⟨b,cap,hρ,hn,o,rfl,hro⟩|⟨⟨e0,_⟩,hN,p,rfl⟩
 rotate_left
 ·have hcs0:=Blk.void_row (hR'.Nvoid hN hm')
  subst e0
  try subst hcs0
  exact zEd sz hB hE hR' ⟨0,0,0,rfl,.inl rfl⟩
 obtain⟨hF,vs,T,hh,us,rest,hus,hvl⟩:=hR'.blk 0 b _ hρ hm'
 have hlen:=VL.length _ _ hvl
 rcases hro with⟨rfl,vs2,T2,hh2,hroom⟩|⟨_,h0⟩
 rotate_left
 ·exact absurd h0 (Nat.lt_irrefl _)
 rw[hh]at hh2;cases hh2
 let G'':Gh:={ G' with ρ:=fun _=>none,τ:=fun k=>if k=0 then some (b,0+cs.length,0+cap*sz)else none,L:=fun c o=>G'.L c o∨(c=b∧o<cs.length),N:=fun _=>False }
 have hcell:∀i (hi:i<us.length),W'.cell? ⟨b,0+i,none⟩=some us[i]:=by
  intro i hi
  have:vs[i]? = some us[i]:=by
   have h1:vs.toList[i]? = some us[i]:=by rw[hus,List.getElem?_append_left hi,List.getElem?_eq_getElem hi]
   simpa using h1
  rw[Nat.zero_add]
  simp[World.cell?,hh,this]
 have hC:VC G'' W' cs b 0:=VC.of_cells cs us b 0 (VL.data (G':=G'') (fun c o e=>Or.inl e) cs us hcs hvl) (fun i hi=>.inr ⟨rfl,by omega⟩) hcell
 refine⟨_,G'',{ s' with H:=[],own:=[0],ns:=1 },rfl,⟨fun i c hc=>?_,fun k r hk=>?_,fun c o e=>.inl (hE.L c o e),hE.cell,hE.w0,hE.F,fun c o e=>?_,fun i c m hc=>?_,fun i e=>absurd e (hB.ρ i (Nat.zero_le _)).2⟩,⟨fun i=>?_,⟨0,fun i _=>?_⟩,fun i j c hi=>?_,fun i c X hi=>?_,fun c o hL=>?_,fun k hk=>?_,fun k hk=>?_,fun k k' _ _ _ _ _ hk hk'=>?_,hR'.below,hR'.base⟩,?_,fun i X hX=>?_,fun k hk=>?_⟩
 ·rw[(hB.ρ i (Nat.zero_le _)).1]at hc;cases hc
 ·rw[hB.τ k]at hk;cases hk
 ·rcases e with e|⟨rfl,_⟩
  ·exact hE.newL c o e
  ·exact .inr (by rw[←hE.F];exact hF)
 ·rw[(hB.ρ i (Nat.zero_le _)).1]at hc;cases hc
 ·rw[yS];exact⟨fun _=>.inr rfl,fun _=>⟨rfl,id⟩,fun e=>e.elim⟩
 ·rw[yS];rfl
 ·cases hi
 ·cases hi
 ·rcases hL with hL|⟨rfl,hlt⟩
  ·exact⟨(hR'.live c o hL).1,fun i hi=>by cases hi⟩
  ·refine⟨⟨us[o]'(by omega),?_⟩,fun i hi=>by cases hi⟩
   have:=hcell o (by omega)
   rwa[Nat.zero_add]at this
 ·have hk1:1≤k:=hk
  show (if k=0 then some (b,0+cs.length,0+cap*sz)else none)=none
  rw[if_neg (by omega)]
 ·rw[tB]at hk
  have e:k=0:=by simpa using hk
  subst e
  refine⟨b,0+cs.length,0+cap*sz,rfl,.inr ⟨hF,fun i hi=>(by cases hi),fun o h1 h2 hL=>?_,vs,T,hh,hroom⟩⟩
  rcases hL with hL|⟨_,h3⟩
  ·exact(hR'.live b o hL).2 0 hρ
  ·omega
 ·rw[tB]at hk hk'
  have e:k=0:=by simpa using hk
  have e':k'=0:=by simpa using hk'
  intros;omega
 ·simp only[V]
  exact⟨cap,Nat.le_trans hn.1 hn.2,.inr ⟨b,0,rfl,hC,⟨_,rfl⟩,.inr ⟨hl,hF,rfl⟩⟩⟩
 ·cases hX
 ·have:k=0:=by omega
  subst this;rfl
theorem vZ.stampNil{P:Program}{f:FuncId}{args:List AV}{sz:Nat}(h:vZ P f [] args (.sl [] 0 .full) [] 0):vZ P f [] args (.sl [] 0 (.st 0 sz)) [] 1:=by
 intro G0 W cargs hB hR hv
 refine(h G0 W cargs hB hR hv).mono ?_
 rintro e W' ⟨u,G',s',rfl,hE,hR',hu,hb,-⟩
 refine zEd sz hB hE hR' ?_
 simp only[V]at hu
 obtain⟨cap,hc,⟨_,_,h3,h4,_⟩|⟨b,off,rfl,_,ho⟩⟩:=hu
 ·exact⟨0,0,0,rfl,.inl h4⟩
 ·exact⟨cap,b,off,ho,.inr rfl⟩
theorem CT.freezeS{P:Program}{f:FuncId}{args cs:List AV}{n c sz:Nat}(h:CT P f [] args (.ms 0 0 n c sz) [.row cs] 0)(hcs:AV.DataL cs)(hl:cs.length=n*sz):CT P f [] args (.sl cs n (.st 0 sz)) [] 1:=
 ⟨h.tri.freezeS hcs hl,h.args,h.H0,hcs,fun _ h=>nomatch h⟩
theorem CT.stampNil{P:Program}{f:FuncId}{args:List AV}{sz:Nat}(h:CT P f [] args (.sl [] 0 .full) [] 0):CT P f [] args (.sl [] 0 (.st 0 sz)) [] 1:=
 ⟨h.tri.stampNil,h.args,h.H0,trivial,fun _ h=>nomatch h⟩
def gmk{α:Type}(B:Int)(d:α)(n:Int):Option (List α):=if 0≤n∧n*B≤140737488355328 then some (List.replicate n.toNat d)else none
def lO(n:Nat)(i:Int):Option Nat:=if 0≤i∧i<n then some i.toNat else none
def zAv{α:Type}(l:List α)(k:Nat)(x:α):Option (List α):=if k<l.length then some (l.set k x)else none
def gfz{α:Type}(n:Nat)(l:List α):Option (List α):=if l.length=n then some l else none
theorem qS{α:Type}{n:Nat}{l r:List α}(h:gfz n l=some r):r=l∧n=r.length:=by
 unfold gfz at h
 split at h
 ·rename_i e;cases h;exact⟨rfl,e.symm⟩
 ·cases h
theorem zEc{f:Nat->AV}{s:Nat}(hs:0<s):∀n:Nat,(List.range (n*s)).map (fun j=>f (j % s))=(List.replicate n ((List.range s).map f)).flatten
 |0=>by simp
 |n+1=>by
  rw[Nat.add_mul,Nat.one_mul,List.range_add,List.map_append,zEc hs n,List.replicate_succ',List.flatten_append]
  congr 1
  simp only[List.map_map,List.flatten_cons,List.flatten_nil,List.append_nil]
  apply List.map_congr_left
  intro j hj
  have:j<s:=List.mem_range.1 hj
  simp[Function.comp,Nat.add_comm (n*s) j,Nat.mod_eq_of_lt this]
theorem zHm{α:Type}{c:α->List AV}{d:α}:∀n:Nat,(List.replicate n (c d)).flatten=zJ c (List.replicate n d)
 |0=>rfl
 |n+1=>by simp only[List.replicate_succ,List.flatten_cons,zJ,List.flatMap_cons];rw[zHm n];rfl
theorem zYA{P:Program}{α:Type}{c:α->List AV}{sz:Nat}{t e:TypeId}{ie:TypeInfo}{z:Value}(ht:P.underlying t=some (.slice e))(hi:P.info? e=some ie)(hs:ie.size=sz)(hz:ie.zero=some z)(hzs:z.cells.size=sz)(h1:1≤sz){B:Nat}(hb:ie.bytes=B)(hB:1≤B){d:α}
  (hd:(List.range sz).map (fun j=>(ofV 8 (z.cells.getD j undef)).frz)=c d) {n:Int} {l:List α} (h:gmk (B:Int) d n=some l):Ob.ok P (.mk (lE P t (ai n) (ai n)) (zJ c l) l.length):=by
 unfold gmk at h
 split at h
 ·rename_i hc
  cases h
  show lE P t (ai n) (ai n)=some (zJ c (List.replicate n.toNat d),(List.replicate n.toNat d).length)
  unfold lE
  simp only[ht,hi,hz]
  have hb':(B:Int)≥1:=by omega
  have hn:n≤n*B:=by
   have:=Int.mul_le_mul_of_nonneg_left hb' hc.1
   simpa using this
  rw[if_pos ⟨trivial,hc.1,by rw[hb];exact hc.2,by omega,by rw[hzs,hs],by rw[hs];exact h1⟩]
  simp only[List.length_replicate,Option.some.injEq,Prod.mk.injEq,and_true]
  rw[hs,hzs,zEc h1 (f:=fun j=>(ofV 8 (z.cells.getD j undef)).frz),hd,zHm]
 ·cases h
theorem zJW{P:Program}{t e:TypeId}{ie:TypeInfo}(ht:P.underlying t=some (.slice e))(hi:P.info? e=some ie){sz:Nat}(hs:ie.size=sz){b n k c z:Nat}{i:Int}(h:lO n i=some k) :
  yV P t (.ms b 0 n c z) (ai i)=some (.mp b (k*sz)):=by
 unfold lO at h
 split at h
 ·rename_i hc
  cases h
  unfold yV
  simp only[ht,hi]
  rw[if_pos hc,hs,Nat.zero_add]
 ·cases h
theorem zLG{α:Type}{c:α->List AV}{sz:Nat}(hc:wS c sz){l:List α}{k:Nat}{x:α}(h:zR l (k:Int)=some x):(zJ c l).drop (k*sz)=c x++zJ c (l.drop (k+1)):=by
 obtain⟨_,_,h2⟩:=gI h
 exact zFA hc.len (by simpa using h2)
theorem zPM{α:Type}{c:α->List AV}{sz:Nat}(hc:wS c sz){l:List α}{k off:Nat}{x:α}(h:zR l (k:Int)=some x):(zJ c l).drop (k*sz+off)=(c x++zJ c (l.drop (k+1))).drop off:=by
 rw[←List.drop_drop,zLG hc h]
theorem zHl{α:Type}{c:α->List AV}{sz:Nat}(hc:∀x,(c x).length=sz):∀(l:List α) (k:Nat) (x:α),k<l.length->splice (zJ c l) (k*sz) (c x)=zJ c (l.set k x)
 | [],k,x,h=>by simp at h
 |y::l,0,x,h=>by
  simp only[splice,Nat.zero_mul,List.take_zero,List.nil_append,Nat.zero_add,zJ,List.flatMap_cons,List.set_cons_zero]
  rw[List.drop_left' (by rw[hc,hc])]
 |y::l,k+1,x,h=>by
  have ih:=zHl hc l k x (by simpa using h)
  simp only[splice,zJ]at ih
  simp only[splice,zJ,List.flatMap_cons,List.set_cons_succ]
  rw[←ih]
  have e:(k+1)*sz=sz+k*sz:=by rw[Nat.add_mul,Nat.one_mul,Nat.add_comm]
  rw[e,List.take_append,List.take_of_length_le (by rw[hc];omega),hc,Nat.add_sub_cancel_left,show sz+k*sz+(c x).length=sz+(k*sz+(c x).length) by omega,←List.drop_drop,List.drop_left' (hc y)]
  simp only[List.append_assoc]
theorem zTA{P:Program}{α:Type}{c:α->List AV}{sz:Nat}(hc:wS c sz){l l2:List α}{k:Nat}{x:α}(h:zAv l k x=some l2):Ob.ok P (.wt (zJ c l) (k*sz) (.agg (c x)) sz (zJ c l2)):=by
 unfold zAv at h
 split at h
 ·rename_i hk
  cases h
  refine⟨hc.one x,hc.len x,?_,zHl hc.len l k x hk⟩
  rw[wM hc.len]
  have:=Nat.mul_le_mul_right sz (show k+1≤l.length from hk)
  rw[Nat.add_mul,Nat.one_mul]at this
  exact this
 ·cases h
theorem zTB{P:Program}{t e:TypeId}{ie:TypeInfo}(ht:P.underlying t=some (.slice e))(hi:P.info? e=some ie){sz:Nat}(hs:ie.size=sz){b o n k c z:Nat}{i:Int}(h:lO n i=some k) :
  yV P t (.ms b (o*sz) n c z) (ai i)=some (.mp b ((o+k)*sz)):=by
 unfold lO at h
 split at h
 ·rename_i hc
  cases h
  unfold yV
  simp only[ht,hi]
  rw[if_pos hc,hs,Nat.add_mul]
 ·cases h
def nT(n:Nat)(a b:Int):Option (Nat×Nat):=if 0≤a∧a≤b∧b≤n then some (a.toNat,(b-a).toNat)else none
theorem zAu{n:Nat}{a b:Int}{r:Nat×Nat}(h:nT n a b=some r):0≤a∧a≤b∧b≤n∧r.1=a.toNat∧r.2=b.toNat-a.toNat:=by
 unfold nT at h
 split at h
 ·rename_i q
  cases h
  exact⟨q.1,q.2.1,q.2.2,rfl,by show (b-a).toNat=_;omega⟩
 ·cases h
theorem zHk{P:Program}{t e:TypeId}{ie:TypeInfo}(ht:P.underlying t=some (.slice e))(hi:P.info? e=some ie){sz:Nat}(hs:ie.size=sz)(h1:1≤sz){b o n c m:Nat}{x y:Int}{r:Nat×Nat}{lo hi':Option AV}(hm:msb n c hi' none=m)(h:nT m x y=some r)
  (hlo:∀h,yZ h 0 lo=if 0≤x∧x≤h then some x.toNat else none) (hhi:yZ m m hi'=if 0≤y∧y≤m then some y.toNat else none) :
  wE P t (.ms b (o*sz) n c sz) lo hi' none=some (.ms b ((o+r.1)*sz) r.2 (c-r.1) sz):=by
 obtain⟨q1,q2,q3,q4,q5⟩:=zAu h
 subst hs
 unfold wE
 simp only[ht,hi,amx,hm,hhi]
 rw[if_pos ⟨by omega,q3⟩]
 simp only[hlo]
 rw[if_neg (by simp),if_pos ⟨q1,by omega⟩]
 simp only
 rw[if_pos ⟨trivial,h1⟩,q4,q5,Nat.add_mul]
 rfl
theorem zWD{P:Program}{t e:TypeId}{ie:TypeInfo}(ht:P.underlying t=some (.slice e))(hi:P.info? e=some ie){sz:Nat}(hs:ie.size=sz)(h1:1≤sz){b o n c:Nat}{x y:Int}{r:Nat×Nat}(h:nT c x y=some r) :
  wE P t (.ms b (o*sz) n c sz) (some (ai x)) (some (ai y)) none=some (.ms b ((o+r.1)*sz) r.2 (c-r.1) sz):=zHk ht hi hs h1 rfl h (fun _=>rfl) rfl
theorem zCA{P:Program}{t e:TypeId}{ie:TypeInfo}(ht:P.underlying t=some (.slice e))(hi:P.info? e=some ie){sz:Nat}(hs:ie.size=sz)(h1:1≤sz){b o n c:Nat}{x:Int}{r:Nat×Nat}(h:nT n x n=some r) :
  wE P t (.ms b (o*sz) n c sz) (some (ai x)) none none=some (.ms b ((o+r.1)*sz) r.2 (c-r.1) sz):=zHk ht hi hs h1 rfl h (fun _=>rfl) (by simp[yZ,msb])
theorem zPN{P:Program}{t e:TypeId}{ie:TypeInfo}(ht:P.underlying t=some (.slice e))(hi:P.info? e=some ie){sz:Nat}(hs:ie.size=sz)(h1:1≤sz){b off n c:Nat}{y:Int}{r:Nat×Nat}(h:nT c 0 y=some r) :
  wE P t (.ms b off n c sz) none (some (ai y)) none=some (.ms b off r.2 c sz):=by
 obtain⟨q1,q2,q3,q4,q5⟩:=zAu h
 subst hs
 have h2:yZ c c (some (ai y))=some y.toNat:=by
  show (if 0≤y∧y≤(c:Int)then some y.toNat else none)=_
  rw[if_pos ⟨by omega,q3⟩]
 unfold wE
 simp only[ht,hi,amx,show msb n c (some (ai y)) none=c from rfl,h2]
 rw[if_neg (by simp)]
 simp only[yZ]
 rw[if_pos ⟨trivial,h1⟩,q5]
 simp
theorem zNB{P:Program}{t e:TypeId}{ie:TypeInfo}(ht:P.underlying t=some (.slice e))(hi:P.info? e=some ie){sz:Nat}(hs:ie.size=sz)(h1:1≤sz)(b off n c:Nat) :
  wE P t (.ms b off n c sz) none (some (ai (n:Int))) (some (ai (n:Int)))=some (.ms b off n n sz):=by
 subst hs
 have hc:aU n (ai (n:Int))=some n:=by
  show (if 0≤(n:Int)∧(n:Int)≤(n:Int)then some (n:Int).toNat else none)=_
  rw[if_pos ⟨by omega,by omega⟩,Int.toNat_natCast]
 have hd:yZ n n (some (ai (n:Int)))=some n:=hc
 unfold wE
 simp only[ht,hi,show msb n c (some (ai (n:Int))) (some (ai (n:Int)))=n from rfl,amx,hc,Option.map_some,hd]
 rw[if_neg (by simp)]
 simp only[yZ]
 rw[if_pos ⟨trivial,h1⟩]
 simp
theorem zTC{P:Program}{t e:TypeId}{ie:TypeInfo}(ht:P.underlying t=some (.slice e))(hi:P.info? e=some ie){sz:Nat}(hs:ie.size=sz)(h1:1≤sz){b o n c:Nat}{x y:Int}{r:Nat×Nat}(h:nT n x y=some r) :
  wE P t (.ms b (o*sz) n c sz) (some (ai x)) (some (ai y)) (some (ai (n:Int)))=some (.ms b ((o+r.1)*sz) r.2 (n-r.1) sz):=by
 obtain⟨q1,q2,q3,q4,q5⟩:=zAu h
 subst hs
 have hc:aU n (ai (n:Int))=some n:=by
  show (if 0≤(n:Int)∧(n:Int)≤(n:Int)then some (n:Int).toNat else none)=_
  rw[if_pos ⟨by omega,by omega⟩,Int.toNat_natCast]
 have hd:yZ n n (some (ai y))=some y.toNat:=by
  show (if 0≤y∧y≤(n:Int)then some y.toNat else none)=_
  rw[if_pos ⟨by omega,q3⟩]
 have he:yZ y.toNat 0 (some (ai x))=some x.toNat:=by
  show (if 0≤x∧x≤(y.toNat:Int)then some x.toNat else none)=_
  rw[if_pos ⟨q1,by omega⟩]
 unfold wE
 simp only[ht,hi,show msb n c (some (ai y)) (some (ai (n:Int)))=n from rfl,amx,hc,Option.map_some,hd]
 rw[if_neg (by simp)]
 simp only[he]
 rw[if_pos ⟨trivial,h1⟩,q4,q5,Nat.add_mul]
 rfl
theorem ldF{P:Program}{α:Type}{c:α->List AV}{sz:Nat}(hc:wS c sz){l:List α}{k:Nat}{x:α}(h:zR l (k:Int)=some x)(off:Nat)(q:Bool×Nat){val:AV}(e:sQ q ((c x++zJ c (l.drop (k+1))).drop off)=some val) :
  Ob.ok P (.ld (sQ q ((zJ c l).drop (k*sz+off))) val):=by
 show sQ q _=some val
 rw[zPM hc h,e]
theorem ldE{P:Program}{α:Type}{c:α->List AV}{sz:Nat}(hc:wS c sz){l:List α}{k:Nat}{x:α}(h:zR l (k:Int)=some x)(q:Bool×Nat){val:AV}(e:sQ q (c x++zJ c (l.drop (k+1)))=some val) :
  Ob.ok P (.ld (sQ q ((zJ c l).drop (k*sz))) val):=by
 show sQ q _=some val
 rw[zLG hc h,e]
theorem zNC{α:Type}{c:α->List AV}{sz:Nat}(hc:∀x,(c x).length=sz){l:List α}{k off:Nat}{x x':α}{vs:List AV}(h:l[k]? = some x)(hv:off+vs.length≤sz)(e:splice (c x) off vs=c x') :
  splice (zJ c l) (k*sz+off) vs=zJ c (l.set k x'):=by
 obtain⟨hk,hx⟩:=List.getElem?_eq_some_iff.1 h
 have h1:l=l.take k++x::l.drop (k+1):=by
  rw[←hx];simp
 have h2:l.set k x'=l.take k++x'::l.drop (k+1):=List.set_eq_take_append_cons_drop.trans (by rw[if_pos hk])
 have hlen:(zJ c (l.take k)).length=k*sz:=by rw[wM hc,List.length_take,Nat.min_eq_left (Nat.le_of_lt hk)]
 have e1:zJ c l=zJ c (l.take k)++(c x++zJ c (l.drop (k+1))):=by
  conv=>lhs;rw[h1]
  rw[←jY];simp[zJ]
 have e2:zJ c (l.set k x')=zJ c (l.take k)++(c x'++zJ c (l.drop (k+1))):=by
  rw[h2,←jY];simp[zJ]
 rw[e1,e2,←e]
 clear e1 e2 h1 h2
 generalize zJ c (l.drop (k+1))=R
 generalize zJ c (l.take k)=A at hlen ⊢
 simp only[splice]
 rw[List.take_append,List.take_of_length_le (by rw[hlen];omega),hlen,Nat.add_sub_cancel_left,show k*sz+off+vs.length=k*sz+(off+vs.length) by omega,List.drop_append,List.drop_of_length_le (by rw[hlen];omega),hlen,Nat.add_sub_cancel_left]
 rw[List.take_append_of_le_length (by rw[hc];omega),List.drop_append_of_le_length (by rw[hc];omega)]
 simp
theorem wtF{P:Program}{α:Type}{c:α->List AV}{sz:Nat}(hc:wS c sz){l l2:List α}{k:Nat}{x x':α}(hx:zR l (k:Int)=some x)(h:zAv l k x'=some l2)(off m:Nat)(v:AV)(hs:v.sound=true)(hm:(tQ v).length=m)(ho:off+m≤sz)(e:splice (c x) off (tQ v)=c x') :
  Ob.ok P (.wt (zJ c l) (k*sz+off) v m (zJ c l2)):=by
 unfold zAv at h
 split at h
 ·rename_i hk
  cases h
  obtain⟨_,_,h2⟩:=gI hx
  refine⟨hs,hm,?_,zNC hc.len (by simpa using h2) (by omega) e⟩
  rw[wM hc.len]
  have:=Nat.mul_le_mul_right sz (show k+1≤l.length from hk)
  rw[Nat.add_mul,Nat.one_mul]at this
  omega
 ·cases h
theorem wtE{P:Program}{α:Type}{c:α->List AV}{sz:Nat}(hc:wS c sz){l l2:List α}{k:Nat}{x:α}{cs:List AV}(he:c x=cs)(h:zAv l k x=some l2):Ob.ok P (.wt (zJ c l) (k*sz) (.agg cs) sz (zJ c l2)):=he▸zTA hc h
def fP{α:Type}(l:List α)(o n:Nat):Option (List α):=if o+n≤l.length then some ((l.drop o).take n)else none
theorem eL{α:Type}{l r:List α}{o n:Nat}(h:fP l o n=some r):r=(l.drop o).take n∧r.length=n:=by
 unfold fP at h
 split at h
 ·cases h
  exact⟨rfl,by rw[List.length_take,List.length_drop];omega⟩
 ·cases h
theorem zAt{P:Program}{α:Type}{c:α->List AV}{sz:Nat}(hc:wS c sz){t e:TypeId}{ie:TypeInfo}{z:Value}(ht:P.underlying t=some (.slice e))(hi:P.info? e=some ie)(hs:ie.size=sz)(hz:ie.zero=some z)(hzs:z.cells.size=sz)(h1:1≤sz){B:Nat}(hb:ie.bytes=B)(hB:1≤B)
  {l m r:List α} (h:yT B l m=some r) (hm:m.length≠0) (z1:Option Nat) (hz1:∀q,z1=some q->q=sz) (src:Option (Nat×Nat×Nat)) (hsrc:∀q,src=some q->q.2.2=sz) :
  fA P t t z1 (zJ c l) l.length src (zJ c m) m.length=some (zJ c r,r.length):=by
 obtain⟨h2,rfl⟩:=pN h
 subst hs
 subst hb
 have h3:(l.length+m.length)*1≤(l.length+m.length)*ie.bytes:=Nat.mul_le_mul_left _ hB
 unfold fA
 simp only[ht,hi,hz]
 rw[if_pos ⟨trivial,wM hc.len l,wM hc.len m,h1,hzs,h2,by omega,cN hc.one m,hm,hz1,hsrc⟩,jY,List.length_append]
theorem zCB{α:Type}{c:α->List AV}{sz:Nat}(hc:∀x,(c x).length=sz)(l:List α)(o n:Nat):fN (zJ c l) (o*sz) n sz=zJ c ((l.drop o).take n):=by
 unfold fN
 rw[mE hc,mF hc]
theorem zHj{P:Program}{α:Type}{c:α->List AV}{sz:Nat}(hc:wS c sz){t e:TypeId}{ie:TypeInfo}{z:Value}(ht:P.underlying t=some (.slice e))(hi:P.info? e=some ie)(hs:ie.size=sz)(hz:ie.zero=some z)(hzs:z.cells.size=sz)(h1:1≤sz){B:Nat}(hb:ie.bytes=B)(hB:1≤B)
  {m r:List α} (h:yT B ([]:List α) m=some r) (hm:m.length≠0):Ob.ok P (.mk (fA P t t none [] 0 none (zJ c m) m.length) (zJ c r) r.length):=
 zAt hc ht hi hs hz hzs h1 hb hB h hm none (fun _ h=>nomatch h) none (fun _ h=>nomatch h)
theorem cU{P:Program}{α:Type}{c:α->List AV}{sz:Nat}(hc:wS c sz){t e:TypeId}{ie:TypeInfo}{z:Value}(ht:P.underlying t=some (.slice e))(hi:P.info? e=some ie)(hs:ie.size=sz)(hz:ie.zero=some z)(hzs:z.cells.size=sz)(h1:1≤sz){B:Nat}(hb:ie.bytes=B)(hB:1≤B)
  {l m r:List α} (h:yT B l m=some r) (hm:m.length≠0):Ob.ok P (.mk (fA P t t (some sz) (zJ c l) l.length none (zJ c m) m.length) (zJ c r) r.length):=
 zAt hc ht hi hs hz hzs h1 hb hB h hm _ (fun _ h=>(Option.some.inj h).symm) none (fun _ h=>nomatch h)
theorem zND{P:Program}{α:Type}{c:α->List AV}{sz:Nat}(hc:wS c sz){t e:TypeId}{ie:TypeInfo}{z:Value}(ht:P.underlying t=some (.slice e))(hi:P.info? e=some ie)(hs:ie.size=sz)(hz:ie.zero=some z)(hzs:z.cells.size=sz)(h1:1≤sz){B:Nat}(hb:ie.bytes=B)(hB:1≤B)
  {l l' m r:List α} {n:Nat} (hf:gfz n l=some l') (h:yT B l' m=some r) (hm:m.length≠0):Ob.ok P (.mk (fA P t t (some sz) (zJ c l) n none (zJ c m) m.length) (zJ c r) r.length):=by
 obtain⟨rfl,rfl⟩:=qS hf
 exact cU hc ht hi hs hz hzs h1 hb hB h hm
theorem zPO{P:Program}{α:Type}{c:α->List AV}{sz:Nat}(hc:wS c sz){t e:TypeId}{ie:TypeInfo}{z:Value}(ht:P.underlying t=some (.slice e))(hi:P.info? e=some ie)(hs:ie.size=sz)(hz:ie.zero=some z)(hzs:z.cells.size=sz)(h1:1≤sz){B:Nat}(hb:ie.bytes=B)(hB:1≤B)
  {l m' m r:List α} {o n j:Nat} (hp:fP m' o n=some m) (h:yT B l m=some r) (hm:m.length≠0):Ob.ok P (.mk (fA P t t (some sz) (zJ c l) l.length (some (j,j,sz)) (fN (zJ c m') (o*sz) n sz) n) (zJ c r) r.length):=by
 obtain⟨rfl,hn⟩:=eL hp
 rw[zCB hc.len]
 have:=zAt hc ht hi hs hz hzs h1 hb hB h hm (some sz) (fun _ h=>(Option.some.inj h).symm) (some (j,j,sz)) (fun _ h=>by cases h;rfl)
 rw[hn]at this
 exact this
theorem zTD{P:Program}{α:Type}{c:α->List AV}{sz:Nat}(hc:wS c sz){t e:TypeId}{ie:TypeInfo}(ht:P.underlying t=some (.slice e))(hi:P.info? e=some ie)(hs:ie.size=sz){l m r:List α}{n k:Nat}(hr:r=l.take n++m)(hn:n≤l.length)(hk:n+m.length≤k)(src:Option Nat)(hsrc:∀q,src=some q->q=sz) :
  zJG P t t sz (zJ c l) n k src (zJ c m) m.length=some (zJ c r):=by
 subst hs
 subst hr
 unfold zJG
 simp only[ht,hi]
 rw[if_pos ⟨trivial,trivial,by rw[wM hc.len];exact Nat.mul_le_mul_right _ hn,wM hc.len m,hk,cN hc.one m,hsrc⟩,mF hc.len,jY]
def zNE{α:Type}(c n:Nat)(l m:List α):Option (List α):=if n+m.length≤c∧n≤l.length then some (l.take n++m)else none
theorem zNF{α:Type}{c n:Nat}{l m r:List α}(h:zNE c n l m=some r):r=l.take n++m∧n≤l.length∧n+m.length≤c:=by
 unfold zNE at h
 split at h
 ·rename_i q;cases h;exact⟨rfl,q.2,q.1⟩
 ·cases h
theorem zPP{P:Program}{α:Type}{c:α->List AV}{sz:Nat}(hc:wS c sz){t e:TypeId}{ie:TypeInfo}(ht:P.underlying t=some (.slice e))(hi:P.info? e=some ie)(hs:ie.size=sz){l m' m r:List α}{n k o n2:Nat}(hp:fP m' o n2=some m)(h:zNE k n l m=some r) :
  Ob.ok P (.inp (zJG P t t sz (zJ c l) n k (some sz) (fN (zJ c m') (o*sz) n2 sz) n2) (zJ c r)):=by
 obtain⟨rfl,hn⟩:=eL hp
 obtain⟨q1,q2,q3⟩:=zNF h
 rw[zCB hc.len]
 have:=zTD hc ht hi hs q1 q2 q3 (some sz) (fun _ h=>(Option.some.inj h).symm)
 rw[hn]at this
 exact this
def gle(a b:Nat):Option Unit:=if a≤b then some ()else none
theorem zPQ{a b:Nat}{u:Unit}(h:gle a b=some u):a≤b:=by
 unfold gle at h
 split at h
 ·assumption
 ·cases h
theorem zWE{P:Program}{t e:TypeId}{ie:TypeInfo}{zv:Value}(ht:P.underlying t=some (.slice e))(hi:P.info? e=some ie)(hz:ie.zero=some zv){sz:Nat}(hzs:zv.cells.size=sz)(h1:zv.cells.toList.all Value.oneCell'=true){l off:Nat}(h:l≤off):Ob.ok P (.clr t l off sz):=
 ⟨h,e,ie,zv,ht,hi,hz,hzs,h1⟩
theorem yAf{P:Program}{α:Type}{c:α->List AV}{sz:Nat}(hc:wS c sz){t e:TypeId}{ie:TypeInfo}{zv:Value}(ht:P.underlying t=some (.slice e))(hi:P.info? e=some ie)(hz:ie.zero=some zv)(hzs:zv.cells.size=sz)(h1:zv.cells.toList.all Value.oneCell'=true){l:List α}{o:Nat}{u:Unit}(h:gle l.length o=some u):Ob.ok P (.clr t (zJ c l).length (o*sz) sz):=
 zWE ht hi hz hzs h1 (by rw[wM hc.len];exact Nat.mul_le_mul_right _ (zPQ h))
theorem zFG{P:Program}{t e:TypeId}{ie:TypeInfo}(ht:P.underlying t=some (.slice e))(hi:P.info? e=some ie){n:Nat}(h:n=0):Ob.ok P (.same t t n):=⟨rfl,h,e,ie,ht,hi⟩
def qZ:List (Int×Int)->Nat->List MapEntry
 | [],_=>[]
 |p::m,c=>{ key:=.int .i64 p.1,val:=.int .i64 p.2,born:=c } :: qZ m (c+1)
def eM(m:List (Int×Int)):Blk:=.obj (.map ⟨qZ m 0⟩ m.length)
def jK:List (Int×Int)->Int->Option Int
 | [],_=>none
 |p::m,k=>if (k==p.1)=true then some p.2 else jK m k
def zJX(m:List (Int×Int))(k:Int):Int:=match jK m k with|some v=>v|none=>0
def zAs(m:List (Int×Int))(k:Int):Bool:=match jK m k with|some _=>true|none=>false
def fC:List (Int×Int)->Int->Int->List (Int×Int)
 | [],k,v=>[(k,v)]
 |p::m,k,v=>if (k==p.1)=true then(k,v)::m else p::fC m k v
def cV:List (Int×Int)->Int->Nat->Option (Nat×Value)
 | [],_,_=>none
 |p::m,k,i=>if (k==p.1)=true then some (i,.int .i64 p.2)else cV m k (i+1)
theorem lP(k:Int):∀(m:List (Int×Int)) (c i:Nat),Instr.findNow (.int .i64) (.int .i64 k) (qZ m c) i=some (cV m k i)
 | [],_,_=>rfl
 |p::m,c,i=>by
  simp only[qZ,Instr.findNow,Instr.sameNow,cV,if_true]
  cases hb:(k==p.1)with
  |true=>rfl
  |false=>simp only[Bool.false_eq_true,if_false];exact lP k m (c+1) (i+1)
theorem zCC(k:Int):∀(m:List (Int×Int)) (i:Nat),(cV m k i).map Prod.snd=(jK m k).map (Value.int .i64)
 | [],_=>rfl
 |p::m,i=>by
  simp only[cV,jK]
  cases hb:(k==p.1)with
  |true=>rfl
  |false=>simp only[Bool.false_eq_true,if_false];exact zCC k m (i+1)
theorem zPR(k:Int)(m:List (Int×Int)):zNu (cV m k 0) (.int .i64 0)=ai (zJX m k):=by
 have h:=zCC k m 0
 unfold zJX
 cases h1:cV m k 0<;>cases h2:jK m k<;>rw[h1,h2]at h
 ·rfl
 ·cases h
 ·cases h
 ·simp only[Option.map_some,Option.some.injEq]at h
  rename_i q v
  obtain⟨j,u⟩:=q
  simp only at h
  subst h
  rfl
theorem zPS(k:Int)(m:List (Int×Int)):(cV m k 0).isSome=zAs m k:=by
 have h:=zCC k m 0
 unfold zAs
 cases h1:cV m k 0<;>cases h2:jK m k<;>rw[h1,h2]at h
 ·rfl
 ·cases h
 ·cases h
 ·rfl
theorem cW:∀(m:List (Int×Int)) (c:Nat),(qZ m c).length=m.length
 | [],_=>rfl
 |_::m,c=>by simp[qZ,cW m (c+1)]
theorem zHi(k v:Int):∀(m:List (Int×Int)) (c i:Nat),
    (match cV m k i with
      |some (j,_)=>i≤j∧(qZ m c).modify (j-i) (fun e=>{ e with key:=.int .i64 k,val:=.int .i64 v })=qZ (fC m k v) c∧(fC m k v).length=m.length
      |none=>qZ m c++[{ key:=.int .i64 k,val:=.int .i64 v,born:=c+m.length }]=qZ (fC m k v) c∧(fC m k v).length=m.length+1)
  | [],c,i=>by simp[cV,fC,qZ]
  |p::m,c,i=>by
    simp only[cV,fC]
    cases hb:(k==p.1)with
    |true=>simp[qZ]
    |false=>
      simp only[Bool.false_eq_true,if_false]
      have ih:=zHi k v m (c+1) (i+1)
      cases hm:cV m k (i+1)with
      |none=>
        rw[hm]at ih
        simp only at ih ⊢
        refine⟨?_,by simp[ih.2]⟩
        simp only[qZ,List.cons_append,List.length_cons]
        rw[←ih.1,show c+(m.length+1)=c+1+m.length by omega]
      |some q=>
        obtain⟨j,u⟩:=q
        rw[hm]at ih
        simp only at ih ⊢
        refine⟨by omega,?_,by simp[ih.2.2]⟩
        simp only[qZ]
        rw[show j-i=(j-(i+1))+1 by omega,List.modify_succ_cons,ih.2.1]
variable {P:Program} {t kt et:TypeId} {ie:TypeInfo}
theorem zWF(ht:P.underlying t=some (.map kt et))(hk:P.underlying kt=some (.int .i64))(he:P.info? et=some ie)(hz:ie.zero=some (.int .i64 0))(m:List (Int×Int))(k:Int) :
  Ob.ok P (.lk t (eM m) (ai k) true (.tup [ai (zJX m k),ab (zAs m k)])):=by
 intro ev i s hl
 unfold nB
 simp only[ht,ai,hk,he,eM]at hl ⊢
 simp only[hl,hz,lP,uZ,cond_true,if_true,zPR,zPS]
theorem zWG(ht:P.underlying t=some (.map kt et))(hk:P.underlying kt=some (.int .i64))(m:List (Int×Int))(k v:Int) :
  Ob.ok P (.mu t (eM m) (ai k) (ai v) (eM (fC m k v))):=by
 intro ev i s hl
 unfold tR
 simp only[ht,ai,hk,eM]at hl ⊢
 simp only[hl,lP,uZ,cond_true]
 have h:=zHi k v m 0 0
 cases hm:cV m k 0 with
 |none=>
  rw[hm]at h
  simp only[Nat.zero_add]at h ⊢
  rw[h.2,←h.1]
  simp
 |some q=>
  obtain⟨j,u⟩:=q
  rw[hm]at h
  simp only[Nat.sub_zero]at h ⊢
  have e:(⟨qZ m 0⟩:Array MapEntry).modify j (fun e=>{ e with key:=.int .i64 k,val:=.int .i64 v })=⟨qZ (fC m k v) 0⟩:=by
   apply Array.ext'
   rw[Array.toList_modify]
   exact h.2.1
  rw[h.2.2,e]
theorem zWH(ht:P.underlying t=some (.map kt et))(m:List (Int×Int)):Ob.ok P (.ln t (eM m) (ai (m.length:Int))):=
 ⟨_,_,_,_,rfl,ht,by simp[goInt,cW]⟩
end Go.Ab
namespace Go.Ab
open Go Go.RowKit
abbrev slv {α:Type} (c:α->List AV) (l:List α) (o:Own):AV:=.sl (zJ c l) l.length o
abbrev nos (n:Nat):List Orc:=List.replicate n .no
structure OL (P:Program) (os:List Orc) (ob:List Ob):Prop where
 ok:zZ P ob
theorem zZ.rev{P:Program}:∀(a b:List Ob),zZ P a->zZ P b->zZ P (a.reverseAux b)
 | [],_,_,k=>k
 |x::a,b,h,k=>zZ.rev a (x::b) h.2 ⟨h.1,k⟩
section
variable {P:Program} {os:List Orc} {ob:List Ob}
theorem OL.nil:OL P [] []:=⟨trivial⟩
theorem oB{b b':Bool}(n:Nat)(h:b=b')(k:OL P os ob):OL P (.bit b'::(nos n++os)) (.bit b b'::ob):=⟨⟨h,k.ok⟩⟩
theorem oA{x:Option AV}{a:AV}(n:Nat)(h:x=some a)(k:OL P os ob):OL P (.av a::(nos n++os)) (.av x a::ob):=⟨⟨h,k.ok⟩⟩
theorem oC{f:FuncId}{H0:List Blk}{args:List AV}{res:AV}{H1:List Blk}{nst:Nat}(n:Nat)(ι:List Nat)(h:CT P f H0 args res H1 nst)(k:OL P os ob):OL P (.call ι H1 nst res none::(nos n++os)) (.call f H0 args res H1 nst::ob):=⟨⟨h,k.ok⟩⟩
theorem oK{b b':Bool}{f:FuncId}{H0:List Blk}{args:List AV}{res:AV}{H1:List Blk}{nst:Nat}(n:Nat)(ι:List Nat)(hb:b=b')(h:CT P f H0 args res H1 nst)(k:OL P os ob):OL P (.call ι H1 nst res (some b')::(nos n++os)) (.call f H0 args res H1 nst :: .bit b b'::ob):=⟨⟨h,hb,k.ok⟩⟩
theorem oF{x:Option AV}{a:AV}(n:Nat)(h:∃a0,x=some a0∧a0.frz=a)(k:OL P os ob):OL P (.fz a::(nos n++os)) (.fz x a::ob):=⟨⟨h,k.ok⟩⟩
theorem oP{t t2:TypeId}{es es2 es':List AV}{n1 n2 n' sz:Nat}{e:Bool}(n:Nat)(h:Ob.ok P (.app t t2 es es2 es' n1 n2 n' sz e))(k:OL P os ob):OL P (.app es' n' sz e::(nos n++os)) (.app t t2 es es2 es' n1 n2 n' sz e::ob):=⟨⟨h,k.ok⟩⟩
theorem oS{cs es:List AV}{l m:Nat}(n:Nat)(h:Ob.ok P (.cells cs es l m))(k:OL P os ob):OL P (.sl es m::(nos n++os)) (.cells cs es l m::ob):=⟨⟨h,k.ok⟩⟩
theorem oL{t:TypeId}{X:Blk}{key:AV}{o:Bool}{a:AV}(n:Nat)(h:Ob.ok P (.lk t X key o a))(k:OL P os ob):OL P (.lk a::(nos n++os)) (.lk t X key o a::ob):=⟨⟨h,k.ok⟩⟩
theorem oU{t:TypeId}{X Y:Blk}{key v:AV}(n:Nat)(h:Ob.ok P (.mu t X key v Y))(k:OL P os ob):OL P (.mu Y::(nos n++os)) (.mu t X key v Y::ob):=⟨⟨h,k.ok⟩⟩
theorem oM{x:Option (List AV×Nat)}{cs:List AV}{m:Nat}(n:Nat)(h:Ob.ok P (.mk x cs m))(k:OL P os ob):OL P (.mk cs m::(nos n++os)) (.mk x cs m::ob):=⟨⟨h,k.ok⟩⟩
theorem oG{x:Option AV}{a:AV}(n:Nat)(h:Ob.ok P (.ld x a))(k:OL P os ob):OL P (.ld a::(nos n++os)) (.ld x a::ob):=⟨⟨h,k.ok⟩⟩
theorem oW{cs:List AV}{off:Nat}{v:AV}{sz:Nat}{cs':List AV}(n:Nat)(h:Ob.ok P (.wt cs off v sz cs'))(k:OL P os ob):OL P (.wt cs'::(nos n++os)) (.wt cs off v sz cs'::ob):=⟨⟨h,k.ok⟩⟩
theorem oN{t:TypeId}{X:Blk}{a:AV}(n:Nat)(h:Ob.ok P (.ln t X a))(k:OL P os ob):OL P (.lk a::(nos n++os)) (.ln t X a::ob):=⟨⟨h,k.ok⟩⟩
theorem oI{x:Option (List AV)}{cs:List AV}(n:Nat)(h:Ob.ok P (.inp x cs))(k:OL P os ob):OL P (.inp cs::(nos n++os)) (.inp x cs::ob):=⟨⟨h,k.ok⟩⟩
theorem oQ{t t2:TypeId}{m:Nat}(n:Nat)(h:Ob.ok P (.same t t2 m))(k:OL P os ob):OL P (.same::(nos n++os)) (.same t t2 m::ob):=⟨⟨h,k.ok⟩⟩
theorem oR{t:TypeId}{l off z:Nat}(n:Nat)(h:Ob.ok P (.clr t l off z))(k:OL P os ob):OL P (.clr::(nos n++os)) (.clr t l off z::ob):=⟨⟨h,k.ok⟩⟩
theorem oD{es:List AV}(h:AV.DataL es)(k:OL P os ob):OL P os (.data es::ob):=⟨⟨h,k.ok⟩⟩
end
theorem spl{α:Type}{b:Bool}{x y:Option α}{r:α}(h:(if b=true then x else y)=some r):(b=true∧x=some r)∨(b=false∧y=some r):=by
 cases b
 ·exact .inr ⟨rfl,by simpa using h⟩
 ·exact .inl ⟨rfl,by simpa using h⟩
theorem spT{α:Type}{b:Bool}{x:Option α}{r:α}(h:(if b=true then x else none)=some r):b=true∧x=some r:=by
 rcases spl h with h|⟨_,h⟩
 ·exact h
 ·cases h
theorem nn{α:Type}{r:α}{p:Prop}(h:(none:Option α)=some r):p:=nomatch h
theorem zTE{α:Type}{b:Bool}{x y:α}(h:b=true):(if b=true then x else y)=x:=if_pos h
theorem zPT{α:Type}{b:Bool}{x y:α}(h:b=false):(if b=true then x else y)=y:=by subst h;rfl
theorem sj{α:Type}{x y:α}(h:some x=some y):x=y:=Option.some.inj h
def sp(j:Nat->Value):Nat->Nat->List (Nat×AV)->List AV
 |0,_,_=>[]
 |n+1,i,l=>match l with
  | []=>.val (j i)::sp j n (i+1) []
  | (m,a)::l'=>bif Nat.beq m i then a::sp j n (i+1) l' else .val (j i)::sp j n (i+1) l
section
variable {P:Program} {pr:FuncId->List AV->LSt->Option LA} (hp:qL P pr) (hm:P.follows .mixedOrders=true) {na:Nb} {fn:Func} {f:FuncId}
include hp hm
theorem OL.toHead{H0 H1:List Blk}{args:List AV}{res:AV}{nst:Nat}(q:P.funcs[f]? = some fn∧fn.body.isNone=false)(m:Nat)(rs:List (Option Nat×Nat×Nat))(keep ks live:List Nat){os:List Orc}{ob:List Ob}(k:OL P os ob){c:Code}{fs':List Fr}{E:(Nat->Value)->List AV}{S:LSt}
  (hk:∀j,Dl P H0.length c (E j) S (wZ P H0.length (zCj P H0.length fn res H1 nst) fs'))
  (h:∀j,jW P pr H0.length 3000 (.run (bod fn)) [] (args++List.replicate (fn.ntmps-args.length) (.val undef)) (st0 H0) ((nos m++os).reverseAux []) rs keep ks live j=some (c,fs',E j,S,ob.reverseAux [])):vZ P f H0 args res H1 nst:=
 vZ.toHead hp hm q.1 q.2 3000 _ rs keep ks live h (zZ.rev _ _ k.ok trivial) hk
theorem OL.toFin{H0 H1:List Blk}{args:List AV}{res:AV}{nst:Nat}(q:P.funcs[f]? = some fn∧fn.body.isNone=false)(m:Nat)(rs:List (Option Nat×Nat×Nat))(keep ks:List Nat)(own:Bool){os:List Orc}{ob:List Ob}(k:OL P os ob)
  (h:eH P pr H0.length fn 3000 (.run (bod fn)) [] (args++List.replicate (fn.ntmps-args.length) (.val undef)) (st0 H0) ((nos m++os).reverseAux []) rs keep ks own=some (res,H1,ob.reverseAux [])) (hn:nst≤ks.length):vZ P f H0 args res H1 nst:=
 vZ.toFin hp hm q.1 q.2 3000 _ rs keep ks own h (zZ.rev _ _ k.ok trivial) hn
theorem OL.lHead{Q:AX->List AV->LSt->Prop}{c c':Code}{fs fs':List Fr}{env:List AV}{s S:LSt}(m:Nat)(rs:List (Option Nat×Nat×Nat))(keep ks live:List Nat){os:List Orc}{ob:List Ob}(k:OL P os ob){E:(Nat->Value)->List AV}
  (hk:∀j,Dl P na c' (E j) S (wZ P na Q fs')) (h:∀j,jW P pr na.n 3000 (.run c) (.loop c::fs) env s ((nos m++os).reverseAux []) rs keep ks live j=some (c',fs',E j,S,ob.reverseAux [])):Dl P na c env s (wZ P na Q fs):=
 Dl.toHead hp hm 3000 _ rs keep ks live h (zZ.rev _ _ k.ok trivial) hk
theorem OL.lFin{c:Code}{fs:List Fr}{env:List AV}{s:LSt}{res:AV}{H1:List Blk}{nst:Nat}(m:Nat)(rs:List (Option Nat×Nat×Nat))(keep ks:List Nat)(own:Bool){os:List Orc}{ob:List Ob}(k:OL P os ob)
  (h:eH P pr na.n fn 3000 (.run c) (.loop c::fs) env s ((nos m++os).reverseAux []) rs keep ks own=some (res,H1,ob.reverseAux [])) (hn:nst≤ks.length):Dl P na c env s (wZ P na (zCj P na fn res H1 nst) fs):=
 Dl.toFin hp hm 3000 _ rs keep ks own h (zZ.rev _ _ k.ok trivial) hn
end
section
variable {P:Program} {os:List Orc} {ob:List Ob}
theorem oCl(n:Nat)(k:OL P os ob):OL P (.cl::(nos n++os)) ob:=⟨k.ok⟩
theorem oCk{f:FuncId}{H0:List Blk}{args:List AV}{res:AV}{H1:List Blk}{nst:Nat}(n:Nat)(ι:List Nat)(kp:List (Nat×Nat))(h:CT P f H0 args res H1 nst)(hk:zJI H0 H1 kp)(k:OL P os ob):OL P (.callk kp ι H1 nst res::(nos n++os)) (.call f H0 args res H1 nst :: .kp H0 H1 kp::ob):=⟨⟨h,hk,k.ok⟩⟩
end
end Go.Ab
set_option linter.unusedSimpArgs false
namespace Go.Ab
open Go Go.RowKit
theorem yW{P:Program}{α:Type}{C L:α->List AV}(he:∀t,C t=L t)(l:List α):Ob.ok P (.cells (zJ L l) (zJ C l) l.length l.length):=⟨by rw[show L=C from funext fun t=>(he t).symm],rfl⟩
structure zF where
 n_:Int
 type_:Tm
instance:Inhabited zF:=⟨⟨default,default⟩⟩
def zK(x:zF):List AV:=[ai x.n_,ai x.type_.k,ai x.type_.n,slv zH x.type_.sub .no]
def zPU(x:zF):AV:=.agg (zK x)
theorem xJ:wS zK 4:=⟨fun _=>rfl,fun _=>⟨trivial,trivial,trivial,⟨trivial,dT _⟩,trivial⟩,fun _=>rfl⟩
theorem zG(l:List zF):AV.DataL (zJ zK l):=uD xJ.data l
structure wV where
 c_:List zF
 a_:List Tm
 b_:List Tm
 fuel_:Int
instance:Inhabited wV:=⟨⟨default,default,default,default⟩⟩
def mH(x:wV):List AV:=[slv zK x.c_ .no,slv zH x.a_ .no,slv zH x.b_ .no,ai x.fuel_]
def zCD(x:wV):AV:=.agg (mH x)
structure zI where
 n_:Int
 t_:Tm
instance:Inhabited zI:=⟨⟨default,default⟩⟩
def zP(x:zI):List AV:=[ai x.n_,ai x.t_.k,ai x.t_.n,slv zH x.t_.sub .no]
theorem wP:wS zP 4:=⟨fun _=>rfl,fun _=>⟨trivial,trivial,trivial,⟨trivial,dT _⟩,trivial⟩,fun _=>rfl⟩
theorem zL(l:List zI):AV.DataL (zJ zP l):=uD wP.data l
structure yA where
 yes_:Bool
 vars_:List zF
 solved_:List zI
 steps_:List Int
instance:Inhabited yA:=⟨⟨default,default,default,default⟩⟩
def zFH(x:yA):List AV:=[ab x.yes_,slv zK x.vars_ .no,slv zP x.solved_ .no,slv zV x.steps_ .no]
def wG(x:yA):AV:=.agg (zFH x)
structure yU where
 n_:Int
 type_:Tm
instance:Inhabited yU:=⟨⟨default,default⟩⟩
def xQ(x:yU):List AV:=[ai x.n_,ai x.type_.k,ai x.type_.n,slv zH x.type_.sub .no]
theorem jZ:wS xQ 4:=⟨fun _=>rfl,fun _=>⟨trivial,trivial,trivial,⟨trivial,dT _⟩,trivial⟩,fun _=>rfl⟩
theorem xR(l:List yU):AV.DataL (zJ xQ l):=uD jZ.data l
structure zHh where
 con_:Int
 yes_:Bool
 args_:List Int
 vars_:List zF
 solved_:List zI
instance:Inhabited zHh:=⟨⟨default,default,default,default,default⟩⟩
structure zNG where
 l_:List Ent
 parts_:List yO
instance:Inhabited zNG:=⟨⟨default,default⟩⟩
structure zD where
 a_:Tm
 b_:Tm
instance:Inhabited zD:=⟨⟨default,default⟩⟩
def zO(x:zD):List AV:=[ai x.a_.k,ai x.a_.n,slv zH x.a_.sub .no,ai x.b_.k,ai x.b_.n,slv zH x.b_.sub .no]
def uO(x:zD):AV:=.agg (zO x)
theorem wQ:wS zO 6:=⟨fun _=>rfl,fun _=>⟨trivial,trivial,⟨trivial,dT _⟩,trivial,trivial,⟨trivial,dT _⟩,trivial⟩,fun _=>rfl⟩
theorem zN(l:List zD):AV.DataL (zJ zO l):=uD wQ.data l
structure zNH where
 e_:Int
instance:Inhabited zNH:=⟨⟨default⟩⟩
end Go.Ab
namespace Go.Proofs.YtfbkefchjcocmaaGreat
open Go Go.Ab
theorem zCE(b:Bool):b=true∨b=false:=by cases b<;>simp
theorem zB{α:Type}{p:α->Prop}:∀x∈([]:List α),p x:=fun _ h=>nomatch h
theorem zA{α:Type}{p:α->Prop}{a:α}{l:List α}(h:p a)(k:∀x∈l,p x):∀x∈a::l,p x:=by
 intro x hx
 rcases List.mem_cons.1 hx with rfl|hx
 ·exact h
 ·exact k x hx
theorem o0:OL Tryz.prog [] []:=OL.nil
abbrev mB (M:xB) (i:Nat):Blk:=.cells [slv yN M.l .no,.mp i 0,slv zV M.args .no,slv zV M.own .no]
abbrev mR (M:xB):Blk:=.cells [slv yN M.rl .no,slv rT M.parts .no]
theorem tv:True:=trivial
theorem lz{a b:Nat}(h:Nat.ble (a+1) b=true):a<b:=Nat.le_of_ble_eq_true h
abbrev Ct:=CT Tryz.prog
abbrev Ci:=vZ Tryz.prog
abbrev Cf:=FuncId->List Blk->List AV->AV->List Blk->Nat->Prop
abbrev Qf (f:FuncId) (fn:Func):Prop:=Tryz.prog.funcs[f]? = some fn∧fn.body.isNone=false
section
variable {f:FuncId} {fn:Func} {H0 H1:List Blk} {args:List AV} {res:AV} {nst:Nat} {os:List Orc} {ob:List Ob}
theorem tF(q:Qf f fn)(m:Nat)(keep:List Nat)(k:OL Tryz.prog os ob)(h:eH Tryz.prog rA H0.length fn 3000 (.run (bod fn)) [] (args++List.replicate (fn.ntmps-args.length) (.val undef)) (st0 H0) ((nos m++os).reverseAux []) [] keep [] false=some (res,H1,ob.reverseAux []):=by kernel_rfl):vZ Tryz.prog f H0 args res H1 0:=OL.toFin xL mixed q m [] keep [] false k h (Nat.le_refl _)
theorem tG(q:Qf f fn)(m:Nat)(rs:List (Option Nat×Nat×Nat))(keep ks:List Nat)(own:Bool)(k:OL Tryz.prog os ob)(h:eH Tryz.prog rA H0.length fn 3000 (.run (bod fn)) [] (args++List.replicate (fn.ntmps-args.length) (.val undef)) (st0 H0) ((nos m++os).reverseAux []) rs keep ks own=some (res,H1,ob.reverseAux []):=by kernel_rfl)(hn:nst≤ks.length:=by decide):vZ Tryz.prog f H0 args res H1 nst:=OL.toFin xL mixed q m rs keep ks own k h hn
theorem tH(q:Qf f fn)(m:Nat)(rs:List (Option Nat×Nat×Nat))(keep ks live:List Nat)(k:OL Tryz.prog os ob){c:Code}{fs':List Fr}{E:(Nat->Value)->List AV}{S:LSt}(hk:∀j,Dl Tryz.prog H0.length c (E j) S (wZ Tryz.prog H0.length (zCj Tryz.prog H0.length fn res H1 nst) fs'))(h:∀j,jW Tryz.prog rA H0.length 3000 (.run (bod fn)) [] (args++List.replicate (fn.ntmps-args.length) (.val undef)) (st0 H0) ((nos m++os).reverseAux []) rs keep ks live j=some (c,fs',E j,S,ob.reverseAux []):=by intro j;kernel_rfl):vZ Tryz.prog f H0 args res H1 nst:=OL.toHead xL mixed q m rs keep ks live k hk h
variable {na:Nb} {Q:AX->List AV->LSt->Prop} {c c':Code} {fs fs':List Fr} {env:List AV} {s S:LSt}
theorem lH(m:Nat)(rs:List (Option Nat×Nat×Nat))(keep ks live:List Nat)(k:OL Tryz.prog os ob){E:(Nat->Value)->List AV}(hk:∀j,Dl Tryz.prog na c' (E j) S (wZ Tryz.prog na Q fs'))(h:∀j,jW Tryz.prog rA na.n 3000 (.run c) (.loop c::fs) env s ((nos m++os).reverseAux []) rs keep ks live j=some (c',fs',E j,S,ob.reverseAux []):=by intro j;kernel_rfl):Dl Tryz.prog na c env s (wZ Tryz.prog na Q fs):=OL.lHead xL mixed m rs keep ks live k hk h
theorem lF(m:Nat)(keep:List Nat)(k:OL Tryz.prog os ob)(h:eH Tryz.prog rA na.n fn 3000 (.run c) (.loop c::fs) env s ((nos m++os).reverseAux []) [] keep [] false=some (res,H1,ob.reverseAux []):=by kernel_rfl):Dl Tryz.prog na c env s (wZ Tryz.prog na (zCj Tryz.prog na fn res H1 0) fs):=OL.lFin xL mixed m [] keep [] false k h (Nat.le_refl _)
theorem lG(m:Nat)(rs:List (Option Nat×Nat×Nat))(keep ks:List Nat)(own:Bool)(k:OL Tryz.prog os ob)(h:eH Tryz.prog rA na.n fn 3000 (.run c) (.loop c::fs) env s ((nos m++os).reverseAux []) rs keep ks own=some (res,H1,ob.reverseAux []):=by kernel_rfl)(hn:nst≤ks.length:=by decide):Dl Tryz.prog na c env s (wZ Tryz.prog na (zCj Tryz.prog na fn res H1 nst) fs):=OL.lFin xL mixed m rs keep ks own k h hn
end
theorem lQ:Tryz.prog.info? 39=some Tryz.t39:=by kernel_rfl
theorem qY:Tryz.prog.info? 77=some Tryz.t77:=by kernel_rfl
theorem zWI{l m' m r:List zF}{n k o n2:Nat}(hp:fP m' o n2=some m)(h:zNE k n l m=some r):Ob.ok Tryz.prog (.inp (zJG Tryz.prog 23 23 4 (zJ zK l) n k (some 4) (fN (zJ zK m') (o*4) n2 4) n2) (zJ zK r)):=zPP xJ Tryz.underlying23 qY rfl hp h
theorem rV{l m r:List Tm}(h:yT 40 l m=some r)(hm:m.length=0):Ob.ok Tryz.prog (.app 24 24 (zJ zH l) (zJ zH m) (zJ zH r) l.length m.length r.length 3 true):=zEh qA Tryz.underlying24 lQ rfl rfl rfl (by decide) rfl (by decide) h hm
theorem zJY:Tryz.prog.info? 41=some Tryz.t41:=by kernel_rfl
theorem zEb:Tryz.prog.info? 3=some Tryz.t3:=by kernel_rfl
theorem zPV{l m r:List Int}(h:yT 8 l m=some r)(hm:m.length=0):Ob.ok Tryz.prog (.app 30 30 (zJ zV l) (zJ zV m) (zJ zV r) l.length m.length r.length 1 true):=zEh eI Tryz.underlying30 zEb rfl rfl rfl (by decide) rfl (by decide) h hm
theorem gK:Tryz.prog.info? 158=some Tryz.t158:=by kernel_rfl
theorem zWJ{n:Nat}(h:n=0):Ob.ok Tryz.prog (.same 122 122 n):=zFG Tryz.underlying122 gK h
theorem zYB{n:Nat}(h:n=0):Ob.ok Tryz.prog (.same 23 23 n):=zFG Tryz.underlying23 qY h
theorem zYC{n:Nat}(h:n=0):Ob.ok Tryz.prog (.same 24 24 n):=zFG Tryz.underlying24 lQ h
theorem zPW{l m r:List zD}(h:yT 80 l m=some r)(hm:m.length≠0):Ob.ok Tryz.prog (.mk (fA Tryz.prog 122 122 (some 6) (zJ zO l) l.length none (zJ zO m) m.length) (zJ zO r) r.length):=cU wQ Tryz.underlying122 gK rfl rfl rfl (by decide) rfl (by decide) h hm
theorem zYD{l m r:List zF}(h:yT 48 l m=some r)(hm:m.length≠0):Ob.ok Tryz.prog (.mk (fA Tryz.prog 23 23 (some 4) (zJ zK l) l.length none (zJ zK m) m.length) (zJ zK r) r.length):=cU xJ Tryz.underlying23 qY rfl rfl rfl (by decide) rfl (by decide) h hm
theorem zVV{l m r:List Int}(h:yT 8 l m=some r)(hm:m.length≠0):Ob.ok Tryz.prog (.mk (fA Tryz.prog 30 30 (some 1) (zJ zV l) l.length none (zJ zV m) m.length) (zJ zV r) r.length):=cU eI Tryz.underlying30 zEb rfl rfl rfl (by decide) rfl (by decide) h hm
theorem zTF{l m' m r:List zD}{o n j:Nat}(hp:fP m' o n=some m)(h:yT 80 l m=some r)(hm:m.length≠0):Ob.ok Tryz.prog (.mk (fA Tryz.prog 122 122 (some 6) (zJ zO l) l.length (some (j,j,6)) (fN (zJ zO m') (o*6) n 6) n) (zJ zO r) r.length):=zPO wQ Tryz.underlying122 gK rfl rfl rfl (by decide) rfl (by decide) hp h hm
theorem zWK{l l' m r:List zI}{n:Nat}(hf:gfz n l=some l')(h:yT 48 l' m=some r)(hm:m.length≠0):Ob.ok Tryz.prog (.mk (fA Tryz.prog 29 29 (some 4) (zJ zP l) n none (zJ zP m) m.length) (zJ zP r) r.length):=zND wP Tryz.underlying29 zJY rfl rfl rfl (by decide) rfl (by decide) hf h hm
theorem zVW:Tryz.prog.info? 9=some Tryz.t9:=by kernel_rfl
theorem zWL{l m r:List ByteArray}(h:yT 16 l m=some r)(hm:m.length≠0):Ob.ok Tryz.prog (.app 177 177 (zJ zAy l) (zJ zAy m) (zJ zAy r) l.length m.length r.length 1 false):=qP zJO Tryz.underlying177 zVW rfl rfl rfl (by decide) rfl (by decide) h hm
theorem zLH:Tryz.prog.info? 216=some Tryz.t216:=by kernel_rfl
theorem zWM{l m r:List tL}(h:yT 56 l m=some r)(hm:m.length≠0):Ob.ok Tryz.prog (.app 180 180 (zJ cM l) (zJ cM m) (zJ cM r) l.length m.length r.length 3 false):=qP zJQ Tryz.underlying180 zLH rfl rfl rfl (by decide) rfl (by decide) h hm
theorem zPX:Tryz.prog.info? 81=some Tryz.t81:=by kernel_rfl
theorem zYE{l m r:List Ent}(h:yT 192 l m=some r)(hm:m.length≠0):Ob.ok Tryz.prog (.app 22 22 (zJ yN l) (zJ yN m) (zJ yN r) l.length m.length r.length 15 false):=qP zJP Tryz.underlying22 zPX rfl rfl rfl (by decide) rfl (by decide) h hm
theorem zVX{l m r:List zF}(h:yT 48 l m=some r)(hm:m.length≠0):Ob.ok Tryz.prog (.app 23 23 (zJ zK l) (zJ zK m) (zJ zK r) l.length m.length r.length 4 false):=qP xJ Tryz.underlying23 qY rfl rfl rfl (by decide) rfl (by decide) h hm
theorem vA{l m r:List Tm}(h:yT 40 l m=some r)(hm:m.length≠0):Ob.ok Tryz.prog (.app 24 24 (zJ zH l) (zJ zH m) (zJ zH r) l.length m.length r.length 3 false):=qP qA Tryz.underlying24 lQ rfl rfl rfl (by decide) rfl (by decide) h hm
theorem mI{l m r:List Int}(h:yT 8 l m=some r)(hm:m.length≠0):Ob.ok Tryz.prog (.app 30 30 (zJ zV l) (zJ zV m) (zJ zV r) l.length m.length r.length 1 false):=qP eI Tryz.underlying30 zEb rfl rfl rfl (by decide) rfl (by decide) h hm
theorem zPY:Tryz.prog.info? 43=some Tryz.t43:=by kernel_rfl
theorem zYF{l m r:List yU}(h:yT 48 l m=some r)(hm:m.length≠0):Ob.ok Tryz.prog (.app 36 36 (zJ xQ l) (zJ xQ m) (zJ xQ r) l.length m.length r.length 4 false):=qP jZ Tryz.underlying36 zPY rfl rfl rfl (by decide) rfl (by decide) h hm
theorem zYG{m r:List zF}(h:yT 48 ([]:List zF) m=some r)(hm:m.length≠0):Ob.ok Tryz.prog (.mk (fA Tryz.prog 23 23 (none) [] 0 none (zJ zK m) m.length) (zJ zK r) r.length):=zHj xJ Tryz.underlying23 qY rfl rfl rfl (by decide) rfl (by decide) h hm
theorem zYH{m r:List Tm}(h:yT 40 ([]:List Tm) m=some r)(hm:m.length≠0):Ob.ok Tryz.prog (.mk (fA Tryz.prog 24 24 (none) [] 0 none (zJ zH m) m.length) (zJ zH r) r.length):=zHj qA Tryz.underlying24 lQ rfl rfl rfl (by decide) rfl (by decide) h hm
theorem zYI{l:List zF}{o:Nat}{u:Unit}(h:gle l.length o=some u):Ob.ok Tryz.prog (.clr 23 (zJ zK l).length (o*4) 4):=yAf xJ Tryz.underlying23 qY rfl rfl (by rfl) h
theorem zFI:Tryz.prog.info? 182=some Tryz.t182:=by kernel_rfl
theorem zYJ{l:List yO}{i:Int}{o:Own}{x:yO}(h:zR l i=some x):yV Tryz.prog 141 (.sl (zJ rT l) l.length o) (ai i)=some (.ip (rT x++zJ rT (l.drop (i.toNat+1)))):=by
 have:=cO zJR (k:=.i64) Tryz.underlying141 zFI rfl h (o:=o)
 exact this
theorem zYK{l:List ByteArray}{i:Int}{o:Own}{x:ByteArray}(h:zR l i=some x):yV Tryz.prog 177 (.sl (zJ zAy l) l.length o) (ai i)=some (.ip (zAy x++zJ zAy (l.drop (i.toNat+1)))):=by
 have:=cO zJO (k:=.i64) Tryz.underlying177 zVW rfl h (o:=o)
 exact this
theorem zYL{l:List tL}{i:Int}{o:Own}{x:tL}(h:zR l i=some x):yV Tryz.prog 180 (.sl (zJ cM l) l.length o) (ai i)=some (.ip (cM x++zJ cM (l.drop (i.toNat+1)))):=by
 have:=cO zJQ (k:=.i64) Tryz.underlying180 zLH rfl h (o:=o)
 exact this
theorem xN{l:List Ent}{i:Int}{o:Own}{x:Ent}(h:zR l i=some x):yV Tryz.prog 22 (.sl (zJ yN l) l.length o) (ai i)=some (.ip (yN x++zJ yN (l.drop (i.toNat+1)))):=by
 have:=cO zJP (k:=.i64) Tryz.underlying22 zPX rfl h (o:=o)
 exact this
theorem zFJ{l:List zF}{i:Int}{o:Own}{x:zF}(h:zR l i=some x):yV Tryz.prog 23 (.sl (zJ zK l) l.length o) (ai i)=some (.ip (zK x++zJ zK (l.drop (i.toNat+1)))):=by
 have:=cO xJ (k:=.i64) Tryz.underlying23 qY rfl h (o:=o)
 exact this
theorem xA{l:List Tm}{i:Int}{o:Own}{x:Tm}(h:zR l i=some x):yV Tryz.prog 24 (.sl (zJ zH l) l.length o) (ai i)=some (.ip (tmL x++zJ zH (l.drop (i.toNat+1)))):=by
 have:=cO qA (k:=.i64) Tryz.underlying24 lQ rfl h (o:=o)
 rw[xE]at this
 exact this
theorem zNI{l:List zI}{i:Int}{o:Own}{x:zI}(h:zR l i=some x):yV Tryz.prog 29 (.sl (zJ zP l) l.length o) (ai i)=some (.ip (zP x++zJ zP (l.drop (i.toNat+1)))):=by
 have:=cO wP (k:=.i64) Tryz.underlying29 zJY rfl h (o:=o)
 exact this
theorem fD{l:List Int}{i:Int}{o:Own}{x:Int}(h:zR l i=some x):yV Tryz.prog 30 (.sl (zJ zV l) l.length o) (ai i)=some (.ip (zV x++zJ zV (l.drop (i.toNat+1)))):=by
 have:=cO eI (k:=.i64) Tryz.underlying30 zEb rfl h (o:=o)
 exact this
theorem zDX{l:List yU}{i:Int}{o:Own}{x:yU}(h:zR l i=some x):yV Tryz.prog 36 (.sl (zJ xQ l) l.length o) (ai i)=some (.ip (xQ x++zJ xQ (l.drop (i.toNat+1)))):=by
 have:=cO jZ (k:=.i64) Tryz.underlying36 zPY rfl h (o:=o)
 exact this
theorem zHg{l:List Int}{i x:Int}(h:zR l i=some x)(hl:l.length=9):mZ Tryz.prog 203 (.agg (zJ zV l)) (ai i)=some (ai x):=zPG (k:=.i64) Tryz.underlying203 (q:=(false,1)) (by kernel_rfl) rfl hl h
theorem zWN{b n k c z:Nat}{i:Int}(h:lO n i=some k):yV Tryz.prog 141 (.ms b 0 n c z) (ai i)=some (.mp b (k*3)):=zJW Tryz.underlying141 zFI rfl h
theorem zLI{b n k c z:Nat}{i:Int}(h:lO n i=some k):yV Tryz.prog 23 (.ms b 0 n c z) (ai i)=some (.mp b (k*4)):=zJW Tryz.underlying23 qY rfl h
theorem zLJ{b n k c z:Nat}{i:Int}(h:lO n i=some k):yV Tryz.prog 29 (.ms b 0 n c z) (ai i)=some (.mp b (k*4)):=zJW Tryz.underlying29 zJY rfl h
theorem zJZ{b o n k c z:Nat}{i:Int}(h:lO n i=some k):yV Tryz.prog 122 (.ms b (o*6) n c z) (ai i)=some (.mp b ((o+k)*6)):=zTB Tryz.underlying122 gK rfl h
theorem zPZ{s:ByteArray}{i x:Int}(h:zCb s i=some x):mZ Tryz.prog 9 (at' s) (ai i)=some (.val (.int .u8 x)):=zPL Tryz.underlying9 h
theorem zVY(m:List (ByteArray×Int))(k:ByteArray):Ob.ok Tryz.prog (.lk 210 (zFF m) (at' k) false (ai (zHq m k))):=zYb Tryz.underlying210 Tryz.underlying9 zEb rfl m k
theorem zQz(m:List (Int×Int))(k:Int):Ob.ok Tryz.prog (.lk 195 (eM m) (ai k) true (.tup [ai (zJX m k),ab (zAs m k)])):=zWF Tryz.underlying195 Tryz.underlying3 zEb rfl m k
theorem zQy(m:List (Int×Int)):Ob.ok Tryz.prog (.ln 195 (eM m) (ai (m.length:Int))):=zWH Tryz.underlying195 m
theorem zQx{n:Int}{l:List yO}(h:gmk 72 (default:yO) n=some l):Ob.ok Tryz.prog (.mk (lE Tryz.prog 141 (ai n) (ai n)) (zJ rT l) l.length):=zYA Tryz.underlying141 zFI rfl rfl rfl (by decide) rfl (by decide) (by rfl) h
theorem zYM(m:List (ByteArray×Int))(k:ByteArray)(v:Int):Ob.ok Tryz.prog (.mu 210 (zFF m) (at' k) (ai v) (zFF (zCc m k v))):=zYa Tryz.underlying210 Tryz.underlying9 m k v
theorem zWO(m:List (Int×Int))(k v:Int):Ob.ok Tryz.prog (.mu 195 (eM m) (ai k) (ai v) (eM (fC m k v))):=zWG Tryz.underlying195 Tryz.underlying3 m k v
theorem rC{l r:List Tm}{a:Int}(h:gsl l a l.length=some r):wE Tryz.prog 24 (.sl (zJ zH l) l.length .no) (some (ai a)) none none=some (.sl (zJ zH r) r.length .no):=zFB qA Tryz.underlying24 lQ rfl h
theorem zYN{b o n c:Nat}{x y:Int}{r:Nat×Nat}(h:nT c x y=some r):wE Tryz.prog 23 (.ms b (o*4) n c 4) (some (ai x)) (some (ai y)) none=some (.ms b ((o+r.1)*4) r.2 (c-r.1) 4):=zWD Tryz.underlying23 qY rfl (by decide) h
theorem zTG{b o n c:Nat}{x y:Int}{r:Nat×Nat}(h:nT n x y=some r):wE Tryz.prog 23 (.ms b (o*4) n c 4) (some (ai x)) (some (ai y)) (some (ai (n:Int)))=some (.ms b ((o+r.1)*4) r.2 (n-r.1) 4):=zTC Tryz.underlying23 qY rfl (by decide) h
theorem zNJ(b off n c:Nat):wE Tryz.prog 122 (.ms b off n c 6) none (some (ai (n:Int))) (some (ai (n:Int)))=some (.ms b off n n 6):=zNB Tryz.underlying122 gK rfl (by decide) b off n c
theorem zKz{b o n c:Nat}{x:Int}{r:Nat×Nat}(h:nT n x n=some r):wE Tryz.prog 122 (.ms b (o*6) n c 6) (some (ai x)) none none=some (.ms b ((o+r.1)*6) r.2 (c-r.1) 6):=zCA Tryz.underlying122 gK rfl (by decide) h
theorem zNK{b o n c:Nat}{x:Int}{r:Nat×Nat}(h:nT n x n=some r):wE Tryz.prog 23 (.ms b (o*4) n c 4) (some (ai x)) none none=some (.ms b ((o+r.1)*4) r.2 (c-r.1) 4):=zCA Tryz.underlying23 qY rfl (by decide) h
theorem zTH{b off n c:Nat}{y:Int}{r:Nat×Nat}(h:nT c 0 y=some r):wE Tryz.prog 23 (.ms b off n c 4) none (some (ai y)) none=some (.ms b off r.2 c 4):=zPN Tryz.underlying23 qY rfl (by decide) h
theorem pU{l r:List Tm}{b:Int}(h:gsl l 0 b=some r):wE Tryz.prog 24 (.sl (zJ zH l) l.length .no) none (some (ai b)) none=some (.sl (zJ zH r) r.length .no):=zJS qA Tryz.underlying24 lQ rfl h
theorem zLK{l r:List Tm}{b:Int}{o:Own}(h:gsl l 0 b=some r):∃a0,wE Tryz.prog 24 (.sl (zJ zH l) l.length o) none (some (ai b)) none=some a0∧a0.frz = .sl (zJ zH r) r.length .no:=zHv qA Tryz.underlying24 lQ rfl h
abbrev Oz:=OL Tryz.prog
abbrev dL:=Dl Tryz.prog
abbrev fQ:=wZ Tryz.prog
abbrev nQ:=zCj Tryz.prog
abbrev qB (q0:List Ent) (m:Nat) (q3 q4:List Int):Blk:=.cells [slv yN q0 .no,.mp m 0,slv zV q3 .no,slv zV q4 .no]
abbrev qR (q1:List Ent) (q2:List yO):Blk:=.cells [slv yN q1 .no,slv rT q2 .no]
theorem oDm{os:List Orc}{ob:List Ob}(q0 q1:List Ent)(q2:List yO)(q3 q4:List Int)(k:Oz os ob):Oz os (.data (zJ rT q2) :: .data (zJ yN q1) :: .data (zJ zV q4) :: .data (zJ zV q3) :: .data (zJ yN q0)::ob):=oD (dC q2)<|oD (dE q1)<|oD (dI q4)<|oD (dI q3)<|oD (dE q0) k
theorem oDM{os:List Orc}{ob:List Ob}(M:xB)(k:Oz os ob):Oz os (.data (zJ rT M.parts) :: .data (zJ yN M.rl) :: .data (zJ zV M.own) :: .data (zJ zV M.args) :: .data (zJ yN M.l)::ob):=oDm M.l M.rl M.parts M.args M.own k
theorem fMa{n m:Nat}{q0 q1:List Ent}{q2:List yO}{q3 q4:List Int}{l:List Blk}(h:m<n)(k:∀X∈l,X.arg (fun i=>i<n)):∀X∈qB q0 m q3 q4::qR q1 q2::l,X.arg (fun i=>i<n):=zA ⟨⟨tv,dE _⟩,h,⟨tv,dI _⟩,⟨tv,dI _⟩,tv⟩ (zA ⟨⟨tv,dE _⟩,⟨tv,dC _⟩,tv⟩ k)
theorem fMf{n m:Nat}{q0 q1:List Ent}{q2:List yO}{q3 q4:List Int}{l:List Blk}(h:m<n)(k:∀X∈l,X.fine (fun i=>i<n)):∀X∈qB q0 m q3 q4::qR q1 q2::l,X.fine (fun i=>i<n):=zA ⟨dE _,h,dI _,dI _,tv⟩ (zA ⟨dE _,dC _,tv⟩ k)
end Go.Proofs.YtfbkefchjcocmaaGreat
namespace Go.Ab
open Go
def Evt{α:Type}(f:Nat->Option α)(r:α):Prop:=∃n,∀q,n≤q->f q=some r
section
variable {α β:Type} {f:Nat->Option α} {r a:α} {b:β}
theorem Evt.mk(h:∀q,f q=some r):Evt f r:=⟨0,fun q _=>h q⟩
theorem Evt.ret{r:α}:Evt (fun _=>some r) r:=⟨0,fun _ _=>rfl⟩
theorem Evt.succ(h:Evt (fun q=>f (q+1)) r):Evt f r:=by
 obtain⟨n,h⟩:=h
 refine⟨n+1,fun q hq=>?_⟩
 obtain⟨k,rfl⟩:∃k,q=k+1:=⟨q-1,by omega⟩
 exact h k (by omega)
theorem Evt.bind{k:Nat->α->Option β}(h:Evt f a)(g:Evt (fun q=>k q a) b):Evt (fun q=>f q>>=k q) b:=by
 obtain⟨n,h⟩:=h;obtain⟨m,g⟩:=g
 refine⟨max n m,fun q hq=>?_⟩
 dsimp only
 rw[h q (by omega)]
 exact g q (by omega)
theorem Evt.pure{x:Option α}{k:Nat->α->Option β}(h:x=some a)(g:Evt (fun q=>k q a) b):Evt (fun q=>x>>=k q) b:=by
 subst h;exact g
theorem Evt.ifT{c:Bool}{g:Nat->Option α}(h:c=true)(k:Evt f r):Evt (fun q=>if c=true then f q else g q) r:=by
 simpa[h]using k
theorem Evt.ifF{c:Bool}{g:Nat->Option α}(h:c=false)(k:Evt g r):Evt (fun q=>if c=true then f q else g q) r:=by
 simpa[h]using k
theorem Evt.iff{c:Bool}{g:Nat->Option α}(h:c=true->Evt f r)(k:c=false->Evt g r):Evt (fun q=>if c=true then f q else g q) r:=by
 cases c
 ·simpa using k rfl
 ·simpa using h rfl
theorem Evt.det(h:Evt f r)(k:Evt f a):r=a:=by
 obtain⟨n,h⟩:=h;obtain⟨m,k⟩:=k
 have:=h (max n m) (by omega)
 rw[k _ (by omega)]at this
 exact(Option.some.inj this).symm
theorem Evt.at(h:Evt f r):∃q,f q=some r:=by obtain⟨n,h⟩:=h;exact⟨n,h n (Nat.le_refl _)⟩
theorem Evt.eq{s:α}(h:Evt f r)(e:r=s):Evt f s:=e▸h
end
def Tot{α:Type}(f:Nat->Option α)(P:α->Prop):Prop:=∃r,Evt f r∧P r
section
variable {α β:Type} {f:Nat->Option α} {P:α->Prop} {Q:β->Prop}
theorem Evt.tot{r:α}(h:Evt f r)(k:P r):Tot f P:=⟨r,h,k⟩
theorem Tot.ret{r:α}(k:P r):Tot (fun _=>some r) P:=⟨r,Evt.ret,k⟩
theorem Tot.succ(h:Tot (fun q=>f (q+1)) P):Tot f P:=by obtain⟨r,h,k⟩:=h;exact⟨r,h.succ,k⟩
theorem Tot.bind{k:Nat->α->Option β}(h:Tot f P)(g:∀a,P a->Tot (fun q=>k q a) Q):Tot (fun q=>f q>>=k q) Q:=by
 obtain⟨a,h,p⟩:=h;obtain⟨b,h2,k⟩:=g a p
 exact⟨b,h.bind h2,k⟩
theorem Tot.pure{x:Option α}{a:α}{k:Nat->α->Option β}(h:x=some a)(g:Tot (fun q=>k q a) Q):Tot (fun q=>x>>=k q) Q:=by
 subst h;exact g
theorem Tot.ite{c:Bool}{g:Nat->Option α}(h:c=true->Tot f P)(k:c=false->Tot g P):Tot (fun q=>if c=true then f q else g q) P:=by
 cases c
 ·simpa using k rfl
 ·simpa using h rfl
theorem Tot.mono{P':α->Prop}(h:Tot f P)(k:∀r,P r->P' r):Tot f P':=by obtain⟨r,h,p⟩:=h;exact⟨r,h,k r p⟩
end
theorem yI{x:Int}(h0:-9223372036854775808≤x)(h1:x≤9223372036854775807):w64 x=x:=by
 show IntKind.i64.wrap x=x
 exact IntWalk.i64_in x ⟨h0,h1⟩
theorem zU(v:Nat)(h:v<9223372036854775807):w64 ((v:Int)+1)=((v+1:Nat):Int):=by
 rw[yI (by omega) (by omega)];simp
section
variable {α:Type} {l:List α} {v:Nat} {x:α} {r:List α}
theorem yE(h:l.drop v=x::r):v<l.length:=by
 rcases Nat.lt_or_ge v l.length with h1|h1
 ·exact h1
 ·rw[List.drop_eq_nil_of_le h1]at h;cases h
theorem yB(h:l.drop v=x::r):decide ((v:Int)<(l.length:Int))=true:=by
 have:=yE h;simp;exact this
theorem yC(h:l.drop v=[]):decide ((v:Int)<(l.length:Int))=false:=by
 have:l.length≤v:=List.drop_eq_nil_iff.1 h
 simp;exact this
theorem zX(h:l.drop v=x::r):zR l (v:Int)=some x:=by
 have h1:=yE h
 have:l[v]? = some x:=by
  have:=congrArg (fun z=>z[0]?) h
  simpa using this
 unfold zR
 rw[if_pos (by omega)];simpa using this
theorem zS(h:l.drop v=x::r):l.drop (v+1)=r:=by
 have:=congrArg List.tail h
 simpa using this
end
theorem yG{α:Type}{B:Nat}{l m:List α}(h:(l.length+m.length)*B≤140737488355328):yT B l m=some (l++m):=by unfold yT;rw[if_pos h]
mutual
def Tm.nodes:Tm->Nat
 | .mk _ _ l=>1+yL l
def yL:List Tm->Nat
 | []=>0
 |t::l=>t.nodes+yL l
end
mutual
def Tm.high:Tm->Nat
 | .mk _ _ l=>1+wT l
def wT:List Tm->Nat
 | []=>0
 |t::l=>max t.high (wT l)
end
mutual
def Tm.Ok:Tm->Prop
 | .mk _ _ l=>l.length<9223372036854775808∧OkL l
def OkL:List Tm->Prop
 | []=>True
 |t::l=>t.Ok∧OkL l
end
mutual
def szT:Tm->Int->Int
 | .mk _ _ l,h=>szL l (h+1)
def szL:List Tm->Int->Int
 | [],h=>h
 |t::l,h=>if h>8192 then h else szL l (szT t h)
end
mutual
theorem zHf:∀(t:Tm) (h:Int),0≤h->h≤8192->h+1≤szT t h∧szT t h≤8193
 | .mk _ _ l,h,h0,h1=>by
  rw[szT]
  exact zVZ l (h+1) (by omega) (by omega)
theorem zVZ:∀(l:List Tm) (h:Int),0≤h->h≤8193->h≤szL l h∧szL l h≤8193
 | [],h,h0,h1=>by rw[szL];omega
 |t::l,h,h0,h1=>by
  rw[szL]
  split
  ·omega
  ·have:=zHf t h h0 (by omega)
   have:=zVZ l (szT t h) (by omega) (by omega)
   omega
end
theorem sT(t:Tm):1≤t.nodes:=by cases t;rw[Tm.nodes];omega
mutual
theorem zQw:∀(t:Tm) (h:Int),0≤h->h≤8192->(h+t.nodes≤8192->szT t h=h+t.nodes)∧(8192<h+t.nodes->szT t h=8193)
 | .mk _ _ l,h,h0,h1=>by
  rw[szT,Tm.nodes]
  have:=zQv l (h+1) (by omega) (by omega)
  constructor
  ·intro h2;rw[this.1 (by omega)];omega
  ·intro h2;exact this.2 (by omega)
theorem zQv:∀(l:List Tm) (h:Int),0≤h->h≤8193->(h+yL l≤8192->szL l h=h+yL l)∧(8192<h+yL l->szL l h=8193)
 | [],h,h0,h1=>by rw[szL,yL];omega
 |t::l,h,h0,h1=>by
  rw[szL,yL]
  have hp:=sT t
  split
  ·omega
  ·have ht:=zQw t h h0 (by omega)
   have hb:=zHf t h h0 (by omega)
   have hl:=zQv l (szT t h) (by omega) (by omega)
   constructor
   ·intro h2
    have e:=ht.1 (by omega)
    rw[e]at hl ⊢
    rw[hl.1 (by omega)];omega
   ·intro h2
    by_cases h3:h+t.nodes≤8192
    ·have e:=ht.1 h3
     rw[e]at hl ⊢
     exact hl.2 (by omega)
    ·exact hl.2 (by rw[ht.2 (by omega)];omega)
end
mutual
def dpT:Tm->Int->Int
 | .mk _ _ l,a=>if a>128 then a else dpL l a a
def dpL:List Tm->Int->Int->Int
 | [],_,m=>m
 |t::l,a,m=>dpL l a (lI m (dpT t (a+1)))
end
mutual
theorem zWz:∀(t:Tm) (a:Int),0≤a->a≤129->a≤dpT t a∧dpT t a≤129
 | .mk _ _ l,a,h0,h1=>by
  rw[dpT]
  split
  ·omega
  ·exact zWy l a a h0 (by omega) (by omega) (by omega)
theorem zWy:∀(l:List Tm) (a m:Int),0≤a->a≤128->a≤m->m≤129->m≤dpL l a m∧dpL l a m≤129
 | [],a,m,h0,h1,h2,h3=>by rw[dpL];omega
 |t::l,a,m,h0,h1,h2,h3=>by
  rw[dpL]
  have:=zWz t (a+1) (by omega) (by omega)
  have:=zWy l a (lI m (dpT t (a+1))) h0 h1 (by unfold lI;split<;>omega) (by unfold lI;split<;>omega)
  unfold lI at this ⊢
  split at this<;>split<;>omega
end
mutual
theorem zQu:∀(t:Tm) (a:Int),0≤a->a≤129->(a+t.high≤129->dpT t a=a+t.high-1)∧(129<a+t.high->dpT t a=129)
 | .mk _ _ l,a,h0,h1=>by
  rw[dpT,Tm.high]
  split
  ·omega
  ·have:=zQt l a a h0 (by omega) (by omega) (by omega)
   constructor
   ·intro h2;rw[this.1 (by omega) (by omega)];omega
   ·intro h2;exact this.2 (.inr (by omega))
theorem zQt:∀(l:List Tm) (a m:Int),0≤a->a≤128->a≤m->m≤129->(m≤128->a+wT l≤128->dpL l a m=max m (a+wT l))∧((m=129∨128<a+wT l)->dpL l a m=129)
 | [],a,m,h0,h1,h2,h3=>by rw[dpL,wT];omega
 |t::l,a,m,h0,h1,h2,h3=>by
  rw[dpL,wT]
  have ht:=zQu t (a+1) (by omega) (by omega)
  have hb:=zWz t (a+1) (by omega) (by omega)
  have hm:a≤lI m (dpT t (a+1))∧lI m (dpT t (a+1))≤129:=by unfold lI;split<;>omega
  have hl:=zQt l a (lI m (dpT t (a+1))) h0 h1 hm.1 hm.2
  have hh:1≤t.high:=by cases t;rw[Tm.high];omega
  constructor
  ·intro h4 h5
   have e:=ht.1 (by omega)
   rw[e]at hl ⊢
   have hi:lI m (a+1+t.high-1)=max m (a+t.high):=by unfold lI;split<;>omega
   rw[hi]at hl ⊢
   rw[hl.1 (by omega) (by omega)];omega
  ·intro h4
   refine hl.2 ?_
   rcases h4 with h4|h4
   ·exact .inl (by unfold lI;split<;>omega)
   ·by_cases h5:128<a+wT l
    ·exact .inr h5
    ·refine .inl ?_
     have e:dpT t (a+1)=129:=by
      by_cases h6:a+1+t.high≤129
      ·omega
      ·exact ht.2 (by omega)
     rw[e];unfold lI;split<;>omega
end
def tT(t:Tm):Bool:=
  decide (1≤t.k)&&decide (t.k≤8)&&decide (0≤t.n) &&
  (if t.k=3∨t.k=4∨t.k=5 then decide (t.sub.length=2)&&decide (t.n≤0)
   else if t.k=7 then decide (t.sub.length=1)&&decide (t.n≤1048576)&&(t.sub.head?.any fun x=>x.k==2)
   else decide (t.sub.length=0)&&(if t.k=2 then decide (t.n≤7)else decide (t.n≤1048576)))
theorem uP{t:Tm}(h:tT t=true):1≤t.k∧t.k≤8∧0≤t.n∧t.n≤1048576∧t.sub.length≤2 ∧
  (t.k=3∨t.k=4∨t.k=5->t.sub.length=2∧t.n≤0)∧(t.k=7->∃x,t.sub=[x]∧x.k=2)∧(t.k=1∨t.k=2∨t.k=6∨t.k=8->t.sub=[])∧(t.k=2->t.n≤7):=by
 unfold tT at h
 revert h
 generalize t.k=k
 generalize t.n=n
 generalize t.sub=l
 intro h
 simp only[Bool.and_eq_true,decide_eq_true_eq]at h
 obtain⟨⟨⟨h1,h2⟩,h3⟩,h4⟩:=h
 split at h4
 ·simp only[Bool.and_eq_true,decide_eq_true_eq]at h4
  refine⟨h1,h2,h3,by omega,by omega,fun _=>h4,by omega,by omega,by omega⟩
 ·split at h4
  ·simp only[Bool.and_eq_true,decide_eq_true_eq]at h4
   obtain⟨⟨h5,h6⟩,h7⟩:=h4
   obtain⟨x,rfl⟩:∃x,l=[x]:=by
    rcases l with _|⟨x,_|⟨y,l⟩⟩<;>simp at h5
    exact⟨x,rfl⟩
   refine⟨h1,h2,h3,h6,by simp,by omega,fun _=>⟨x,rfl,by simpa using h7⟩,by omega,by omega⟩
  ·simp only[Bool.and_eq_true,decide_eq_true_eq]at h4
   have hl:l=[]:=List.length_eq_zero_iff.1 h4.1
   refine⟨h1,h2,h3,?_,by omega,by omega,by omega,fun _=>hl,fun h8=>?_⟩
   ·have:=h4.2
    split at this<;>(simp at this;omega)
   ·have:=h4.2
    rw[if_pos h8]at this
    simpa using this
mutual
def yY:Tm->Bool
 | .mk k n l=>tT (.mk k n l)&&wH l
def wH:List Tm->Bool
 | []=>true
 |t::l=>yY t&&wH l
end
def zM(t:Tm):Bool:=decide (t.nodes≤8192)&&decide (t.high≤128)&&yY t
def eN(k:Int)(i:Nat):Int:=if i=1∧(k=3∨k=4)then 1 else 0
mutual
def oZ:Tm->Int->Int
 | .mk k n l,b=>if k=1 then max 0 (n+1-b)else jL l k 0 b
def jL:List Tm->Int->Nat->Int->Int
 | [],_,_,_=>0
 |t::l,k,i,b=>max (oZ t (b+eN k i)) (jL l k (i+1) b)
end
mutual
def qD:Tm->Int->Int->List Int
 | .mk k n l,a,b=>(if k=a∨k=b then [n]else [])++zCF l a b
def zCF:List Tm->Int->Int->List Int
 | [],_,_=>[]
 |t::l,a,b=>qD t a b++zCF l a b
end
open Go.RowKit
def rdG(W:World):Gh:=⟨fun _=>none,fun _=>none,fun b o=>∃v,W.cell? ⟨b,o,none⟩=some v,W,fun b=>b<W.heap.size,fun _=>False⟩
theorem zWP(W:World):yD (rdG W) (yH (Emp 0) (st0 [])) W:=by
 refine⟨fun _=>⟨fun _=>.inr rfl,fun _=>⟨rfl,id⟩,fun e=>e.elim⟩,⟨0,fun _ _=>rfl⟩,fun _ _ _ h=>?_,fun _ _ _ h=>?_,fun _ _ h=>⟨h,fun i e=>by cases e⟩,fun _ _=>rfl,fun _ h=>?_,fun _ _ _ _ _ _ _ h=>?_,vH.refl _ _,fun _ h=>h⟩
 ·cases h
 ·cases h
 ·cases h
 ·cases h
theorem zTI(W:World):lD (0:Nat) (rdG W):=⟨fun _ _=>⟨rfl,id⟩,fun _=>rfl,fun _ _ ⟨_,h⟩=>World.block_lt_of_cell? W _ h,trivial⟩
theorem zCG{W:World}:∀(xs:List AV) (cs:List Value) (b off:Nat),VL (rdG W) W xs cs->(∀i,i<xs.length->W.cell? ⟨b,off+i,none⟩=cs[i]?)->VC (rdG W) W xs b off
 | [],_,_,_,_,_=>by simp only[VC]
 |a::xs,c::cs,b,off,hv,h=>by
  simp only[VL]at hv
  have h0:=h 0 (by simp)
  simp only[Nat.add_zero,List.getElem?_cons_zero]at h0
  simp only[VC]
  refine⟨⟨c,h0⟩,⟨c,h0,hv.1⟩,zCG xs cs b (off+1) hv.2 fun i hi=>?_⟩
  have:=h (i+1) (by simp;omega)
  simpa[Nat.add_assoc,Nat.add_comm 1 i]using this
 |_::_,[],_,_,hv,_=>by simp only[VL]at hv
theorem zHe{W:World}{b:Nat}:∀(n off:Nat),(∀i,i<n->∃(cs:List Value) (t:Tm),(∀j,j<3->W.cell? ⟨b,off+i*3+j,none⟩=cs[j]?)∧VL (rdG W) W (tmL t) cs∧t.Ok) ->
  ∃l:List Tm,l.length=n∧VC (rdG W) W (zJ zH l) b off∧OkL l
 |0,off,_=>⟨[],rfl,by simp[zJ,VC],by rw[OkL];trivial⟩
 |n+1,off,h=>by
  obtain⟨cs,t,hc,ht,hto⟩:=h 0 (by omega)
  obtain⟨l,hl,hV,hlo⟩:=zHe (W:=W) (b:=b) n (off+3) fun i hi=>by
   obtain⟨cs,t,hc,ht,hto⟩:=h (i+1) (by omega)
   refine⟨cs,t,fun j hj=>?_,ht,hto⟩
   rw[←hc j hj]
   congr 2
   omega
  refine⟨t::l,by simp[hl],?_,by rw[OkL];exact⟨hto,hlo⟩⟩
  have e:zJ zH (t::l)=tmL t++zJ zH l:=by simp only[zJ,List.flatMap_cons,xE]
  rw[e]
  refine VC.append _ _ _ _ (zCG _ cs _ _ ht fun i hi=>?_) (by simpa[tmL]using hV)
  simpa using hc i (by simpa[tmL]using hi)
end Go.Ab
namespace Go.Proofs.YtfbkefchjcocmaaGreat
open Go Go.Ab Go.RowKit Go.Proofs
theorem zTJ{H:Type}{enc:TypeId×Value->H}{W:World}{n:Nat}{c2:Value}{x:DataW H×List MemPlace}
  (ih:∀m,n=m+1->∀(cs:List Value) (x:DataW H×List MemPlace),DataW.trod enc Tryz.prog W 0 (fun _=>true) true m 39 cs=some x->∃t:Tm,VL (rdG W) W (tmL t) cs∧t.Ok)
  (f2:DataW.trod enc Tryz.prog W 0 (fun _=>true) true n 24 [c2]=some x):∃l:List Tm,V (rdG W) W (.sl (zJ zH l) l.length .no) c2∧OkL l∧l.length<9223372036854775808:=by
 rcases DataW.trod_slice Tryz.underlying24 f2 with⟨e2,-⟩|⟨a,len,cap,elems,rest,m,hm,e2,-,-,hle,hmx,hel,hE,hR,-⟩
 ·cases e2
  exact⟨[],by simp only[V];exact⟨0,Nat.le_refl _,.inl ⟨rfl,rfl,rfl,rfl,trivial⟩⟩,by rw[OkL];trivial,by simp⟩
 ·cases e2
  have rd:∀i,i<cap->∃(cs:List Value) (t:Tm),W.cells? 0 (a.add (i*3)) 3=some cs∧VL (rdG W) W (tmL t) cs∧t.Ok:=by
   intro i hi
   have got:∃y,(W.cells? 0 (a.add (i*3)) 3).bind (DataW.trod enc Tryz.prog W 0 (fun _=>true) true m 39)=some y:=by
    rw[←zEl]
    rcases Nat.lt_or_ge i len with hlt|hge
    ·rw[hE i hlt];exact⟨_,List.getElem?_eq_getElem (by omega)⟩
    ·obtain⟨r1,r2⟩:=hR rfl
     have:=r2 (i-len) (by omega)
     rw[show len+(i-len)=i by omega]at this
     rw[this];exact⟨_,List.getElem?_eq_getElem (by omega)⟩
   obtain⟨y,hy⟩:=got
   obtain⟨cs,h1,h2⟩:=Option.bind_eq_some_iff.1 hy
   obtain⟨t,ht⟩:=ih m hm cs y h2
   exact⟨cs,t,h1,ht⟩
  rcases Nat.eq_zero_or_pos cap with e|hpos
  ·subst e
   have:len=0:=by omega
   subst this
   exact⟨[],by simp only[V];exact⟨0,Nat.le_refl _,.inl ⟨rfl,rfl,rfl,rfl,trivial⟩⟩,by rw[OkL];trivial,by simp⟩
  ·obtain⟨b,off,spot⟩:=a
   have hsp:spot=none:=by
    obtain⟨cs,t,h1,h2⟩:=rd 0 hpos
    obtain⟨_,hl,hc⟩:=World.cells?_some h1
    have g0:=hc 0 (by omega)
    obtain⟨c0,hc0⟩:∃c0,cs[0]? = some c0:=⟨_,List.getElem?_eq_getElem (by omega)⟩
    rw[hc0]at g0
    simpa[Addr.add]using World.cell?_spot g0
   subst hsp
   obtain⟨l,hl,hV,hlo⟩:=zHe (W:=W) (b:=b) len off fun i hi=>by
    obtain⟨cs,t,h1,h2⟩:=rd i (by omega)
    obtain⟨_,_,hc⟩:=World.cells?_some h1
    exact⟨cs,t,fun j hj=>by have:=hc j hj;simpa[Addr.add_lit]using this,h2⟩
   refine⟨l,?_,hlo,by have:maxLen=9223372036854775807:=rfl;omega⟩
   simp only[V]
   exact⟨cap,by omega,.inr ⟨b,off,by rw[hl],hV,trivial⟩⟩
theorem zBF{H:Type}{enc:TypeId×Value->H}{W:World}:∀(fuel:Nat) (cs:List Value) (x:DataW H×List MemPlace),DataW.trod enc Tryz.prog W 0 (fun _=>true) true fuel 39 cs=some x->∃t:Tm,VL (rdG W) W (tmL t) cs∧t.Ok:=by
 intro fuel
 induction fuel using Nat.strongRecOn with
 |ind fuel ih=>
  intro cs x h
  obtain⟨xs,n,hn,-,hlen,hxs,hf⟩:=DataW.trod_struct Tryz.underlying39 h
  have hlen:cs.length=3:=hlen.trans zEl
  obtain⟨c0,c1,c2,rfl⟩:∃c0 c1 c2,cs=[c0,c1,c2]:=by
   rcases cs with _|⟨a,_|⟨b,_|⟨c,_|⟨e,cs⟩⟩⟩⟩<;>simp only[List.length_nil,List.length_cons]at hlen<;>first|exact⟨a,b,c,rfl⟩|omega
  have c3:Tryz.prog.cellsOf 3=1:=by kernel_rfl
  have c71:Tryz.prog.cellsOf 24=1:=by kernel_rfl
  have f0:DataW.trod enc Tryz.prog W 0 (fun _=>true) true n 3 ((List.drop 0 [c0,c1,c2]).take (Tryz.prog.cellsOf 3))=xs[0]?:=hf 0 _ rfl
  have f1:DataW.trod enc Tryz.prog W 0 (fun _=>true) true n 3 ((List.drop 1 [c0,c1,c2]).take (Tryz.prog.cellsOf 3))=xs[1]?:=hf 1 _ rfl
  have f2:DataW.trod enc Tryz.prog W 0 (fun _=>true) true n 24 ((List.drop 2 [c0,c1,c2]).take (Tryz.prog.cellsOf 24))=xs[2]?:=hf 2 _ rfl
  rw[c3]at f0 f1
  rw[c71]at f2
  replace f0:DataW.trod enc Tryz.prog W 0 (fun _=>true) true n 3 [c0]=xs[0]?:=f0
  replace f1:DataW.trod enc Tryz.prog W 0 (fun _=>true) true n 3 [c1]=xs[1]?:=f1
  replace f2:DataW.trod enc Tryz.prog W 0 (fun _=>true) true n 24 [c2]=xs[2]?:=f2
  have hsz:xs.length=3:=hxs
  obtain⟨y0,y1,y2,rfl⟩:∃y0 y1 y2,xs=[y0,y1,y2]:=by
   rcases xs with _|⟨a,_|⟨b,_|⟨c,_|⟨e,xs⟩⟩⟩⟩<;>simp only[List.length_nil,List.length_cons]at hsz<;>first|exact⟨a,b,c,rfl⟩|omega
  simp only[List.getElem?_cons_zero,List.getElem?_cons_succ]at f0 f1 f2
  obtain⟨k0,e0,-,-⟩:=DataW.trod_int Tryz.underlying3 f0
  obtain⟨k1,e1,-,-⟩:=DataW.trod_int Tryz.underlying3 f1
  cases e0;cases e1
  have key:=zTJ (W:=W) (n:=n) (fun m hm cs x hx=>ih m (by omega) cs x hx) f2
  obtain⟨l,hl,ho,hlen⟩:=key
  refine⟨.mk k0 k1 l,?_,by rw[Tm.Ok];exact⟨hlen,ho⟩⟩
  simp only[tmL,Tm.k,Tm.n,Tm.sub,VL]
  exact⟨by simp only[V],by simp only[V],hl,trivial⟩
end Go.Proofs.YtfbkefchjcocmaaGreat
namespace Go.Ab
open Go Go.RowKit
def Wt{H:Type}(P:Program)(t:TypeId)(d:DataW H):Prop:=∀w∈d.weights P t,w≤reachBytes
theorem zBG{H:Type}{P:Program}:∀(ts:List TypeId) (ds:List (DataW H)) (i:Nat) (t:TypeId) (d:DataW H),ts[i]? = some t->ds[i]? = some d->∀w∈d.weights P t,w∈DataW.weightsEach P ts ds
 | [],_,i,t,d,h,_,w,_=>by simp at h
 |_::_,[],i,t,d,_,h,w,_=>by simp at h
 |t0::ts,d0::ds,0,t,d,h,k,w,hw=>by
  simp only[List.getElem?_cons_zero,Option.some.injEq]at h k
  subst h;subst k
  rw[DataW.weightsEach];exact List.mem_append_left _ hw
 |t0::ts,d0::ds,i+1,t,d,h,k,w,hw=>by
  rw[DataW.weightsEach]
  exact List.mem_append_right _ (zBG ts ds i t d (by simpa using h) (by simpa using k) w hw)
theorem zKy{H:Type}{P:Program}{e:TypeId}:∀(ds:List (DataW H)) (d:DataW H),d∈ds->∀w∈d.weights P e,w∈DataW.weightsAll P e ds
 |d0::ds,d,h,w,hw=>by
  rw[DataW.weightsAll]
  rcases List.mem_cons.1 h with rfl|h
  ·exact List.mem_append_left _ hw
  ·exact List.mem_append_right _ (zKy ds d h w hw)
theorem qT{H:Type}{P:Program}{t:TypeId}{fs:Array Field}(ht:P.underlying t=some (.struct fs)){parts:List (DataW H)}(h:Wt P t (.agg parts)){i:Nat}{f:Field}{d:DataW H}(hf:fs[i]? = some f)(hd:parts[i]? = some d):Wt P f.type d:=fun w hw=>by
 refine h w ?_
 rw[DataW.weights,ht]
 exact zBG _ _ i f.type d (by rw[List.getElem?_map,Array.getElem?_toList,hf];rfl) hd w hw
theorem zQs{H:Type}{P:Program}{t e:TypeId}(ht:P.underlying t=some (.slice e)){es rs:List (DataW H)}(h:Wt P t (.slice es rs)):(es.length+rs.length)*P.bytesOf e≤reachBytes∧(∀d∈es,Wt P e d)∧∀d∈rs,Wt P e d:=by
 unfold Wt at h
 rw[DataW.weights,ht]at h
 refine⟨h _ (by simp),fun d hd w hw=>h w ?_,fun d hd w hw=>h w ?_⟩
 ·exact List.mem_cons_of_mem _ (List.mem_append_left _ (zKy es d hd w hw))
 ·exact List.mem_cons_of_mem _ (List.mem_append_right _ (zKy rs d hd w hw))
theorem zEa{α:Type}(cells:α->List AV)(c:Nat)(hcl:∀x,(cells x).length=c){W:World}{b:Nat}{Q:α->Prop}:∀(n off:Nat),(∀i,i<n->∃(cs:List Value) (x:α),(∀j,j<c->W.cell? ⟨b,off+i*c+j,none⟩=cs[j]?)∧VL (rdG W) W (cells x) cs∧Q x) ->
  ∃l:List α,l.length=n∧VC (rdG W) W (zJ cells l) b off∧∀x∈l,Q x
 |0,off,_=>⟨[],rfl,by simp[zJ,VC],fun _ h=>nomatch h⟩
 |n+1,off,h=>by
  obtain⟨cs,t,hc,ht,hq⟩:=h 0 (by omega)
  obtain⟨l,hl,hV,hlo⟩:=zEa cells c hcl (W:=W) (b:=b) (Q:=Q) n (off+c) fun i hi=>by
   obtain⟨cs,t,hc,ht,hto⟩:=h (i+1) (by omega)
   refine⟨cs,t,fun j hj=>?_,ht,hto⟩
   rw[←hc j hj]
   congr 2
   rw[Nat.succ_mul];omega
  refine⟨t::l,by simp[hl],?_,fun x hx=>(List.mem_cons.1 hx).elim (fun e=>e▸hq) (hlo x)⟩
  have e:zJ cells (t::l)=cells t++zJ cells l:=by simp only[zJ,List.flatMap_cons]
  rw[e]
  refine VC.append _ _ _ _ (zCG _ cs _ _ ht fun i hi=>?_) (by rw[hcl];exact hV)
  rw[hcl]at hi
  simpa using hc i hi
theorem gL{α:Type}(cells:α->List AV)(c:Nat)(hcl:∀x,(cells x).length=c)(hpos:0<c){H:Type}{enc:TypeId×Value->H}{P:Program}{W:World}{n:Nat}{t e:TypeId}{c2:Value}{x:DataW H×List MemPlace}{Q:α->Prop}
  (ht:P.underlying t=some (.slice e)) (hc:P.cellsOf e=c)
  (ih:∀m,n=m+1->∀(cs:List Value) (x:DataW H×List MemPlace),DataW.trod enc P W 0 (fun _=>true) true m e cs=some x->Wt P e x.1->∃a:α,VL (rdG W) W (cells a) cs∧Q a)
  (f2:DataW.trod enc P W 0 (fun _=>true) true n t [c2]=some x) (hw:Wt P t x.1):∃l:List α,V (rdG W) W (.sl (zJ cells l) l.length .no) c2∧(∀a∈l,Q a)∧l.length*P.bytesOf e≤reachBytes:=by
 rcases DataW.trod_slice ht f2 with⟨e2,-⟩|⟨a,len,cap,elems,rest,m,hm,e2,hx,-,hle,hmx,hel,hE,hR,-⟩
 ·cases e2
  exact⟨[],by simp only[V];exact⟨0,Nat.le_refl _,.inl ⟨rfl,rfl,rfl,rfl,trivial⟩⟩,fun _ h=>(nomatch h),by simp⟩
 ·cases e2
  rw[hx]at hw
  obtain⟨w1,w2,w3⟩:=zQs ht hw
  rw[hc]at hE hR
  have rd:∀i,i<cap->∃(cs:List Value) (t:α),W.cells? 0 (a.add (i*c)) c=some cs∧VL (rdG W) W (cells t) cs∧Q t:=by
   intro i hi
   have got:∃y,(W.cells? 0 (a.add (i*c)) c).bind (DataW.trod enc P W 0 (fun _=>true) true m e)=some y∧Wt P e y.1:=by
    rcases Nat.lt_or_ge i len with hlt|hge
    ·rw[hE i hlt];exact⟨_,List.getElem?_eq_getElem (by omega),w2 _ (List.mem_map_of_mem (List.getElem_mem _))⟩
    ·obtain⟨r1,r2⟩:=hR rfl
     have:=r2 (i-len) (by omega)
     rw[show len+(i-len)=i by omega]at this
     rw[this];exact⟨_,List.getElem?_eq_getElem (by omega),w3 _ (List.mem_map_of_mem (List.getElem_mem _))⟩
   obtain⟨y,hy,hyw⟩:=got
   obtain⟨cs,h1,h2⟩:=Option.bind_eq_some_iff.1 hy
   obtain⟨t,ht⟩:=ih m hm cs y h2 hyw
   exact⟨cs,t,h1,ht⟩
  rcases Nat.eq_zero_or_pos cap with e0|hp
  ·subst e0
   have:len=0:=by omega
   subst this
   exact⟨[],by simp only[V];exact⟨0,Nat.le_refl _,.inl ⟨rfl,rfl,rfl,rfl,trivial⟩⟩,fun _ h=>(nomatch h),by simp⟩
  ·obtain⟨b,off,spot⟩:=a
   have hsp:spot=none:=by
    obtain⟨cs,t,h1,h2⟩:=rd 0 hp
    obtain⟨_,hl,hcc⟩:=World.cells?_some h1
    have g0:=hcc 0 (by omega)
    obtain⟨c0,hc0⟩:∃c0,cs[0]? = some c0:=⟨_,List.getElem?_eq_getElem (by omega)⟩
    rw[hc0]at g0
    simpa[Addr.add]using World.cell?_spot g0
   subst hsp
   obtain⟨l,hl,hV,hlo⟩:=zEa cells c hcl (W:=W) (b:=b) (Q:=Q) len off fun i hi=>by
    obtain⟨cs,t,h1,h2⟩:=rd i (by omega)
    obtain⟨_,_,hcc⟩:=World.cells?_some h1
    exact⟨cs,t,fun j hj=>by have:=hcc j hj;simpa[Addr.add_lit]using this,h2⟩
   refine⟨l,?_,hlo,?_⟩
   ·simp only[V]
    exact⟨cap,by omega,.inr ⟨b,off,by rw[hl],hV,trivial⟩⟩
   ·rw[List.length_map,List.length_map,hel]at w1
    rw[hl]
    exact Nat.le_trans (Nat.mul_le_mul_right _ (Nat.le_add_right _ _)) w1
end Go.Ab
namespace Go.Proofs.YtfbkefchjcocmaaGreat
open Go Go.Ab Go.RowKit Go.Proofs
def RdE(e:Ent):Prop:=e.type.Ok∧e.body.Ok∧e.cons.length≤17592186044416∧e.fields.length≤17592186044416
theorem zLL{H:Type}{enc:TypeId×Value->H}{W:World}{n:Nat}{c2:Value}{x:DataW H×List MemPlace}(f2:DataW.trod enc Tryz.prog W 0 (fun _=>true) true n 30 [c2]=some x)(hw:Wt Tryz.prog 30 x.1) :
  ∃l:List Int,V (rdG W) W (.sl (zJ zV l) l.length .no) c2∧l.length≤17592186044416:=by
 obtain⟨l,h1,-,h2⟩:=gL zV 1 (fun _=>rfl) (by omega) (Q:=fun _=>True) Tryz.underlying30 (by kernel_rfl) (fun m _ cs x h _=>by
  obtain⟨k,e,-⟩:=DataW.trod_int Tryz.underlying3 h
  subst e
  exact⟨k,by simp only[zV,VL,V,and_true],trivial⟩) f2 hw
 refine⟨l,h1,?_⟩
 have:Tryz.prog.bytesOf 3=8:=by kernel_rfl
 rw[this]at h2
 have:reachBytes=140737488351232:=rfl
 omega
theorem zWQ{α:Type}(l:List α)(h:l.length=15):∃c0 c1 c2 c3 c4 c5 c6 c7 c8 c9 c10 c11 c12 c13 c14,l=[c0,c1,c2,c3,c4,c5,c6,c7,c8,c9,c10,c11,c12,c13,c14]:=by
 rcases l with _|⟨c0,_|⟨c1,_|⟨c2,_|⟨c3,_|⟨c4,_|⟨c5,_|⟨c6,_|⟨c7,_|⟨c8,_|⟨c9,_|⟨c10,_|⟨c11,_|⟨c12,_|⟨c13,_|⟨c14,_|⟨zz,zs⟩⟩⟩⟩⟩⟩⟩⟩⟩⟩⟩⟩⟩⟩⟩⟩<;>simp only[List.length_nil,List.length_cons]at h<;>first|exact⟨c0,c1,c2,c3,c4,c5,c6,c7,c8,c9,c10,c11,c12,c13,c14,rfl⟩|omega
theorem zWR{α:Type}(l:List α)(h:l.length=11):∃y0 y1 y2 y3 y4 y5 y6 y7 y8 y9 y10,l=[y0,y1,y2,y3,y4,y5,y6,y7,y8,y9,y10]:=by
 rcases l with _|⟨y0,_|⟨y1,_|⟨y2,_|⟨y3,_|⟨y4,_|⟨y5,_|⟨y6,_|⟨y7,_|⟨y8,_|⟨y9,_|⟨y10,_|⟨zz,zs⟩⟩⟩⟩⟩⟩⟩⟩⟩⟩⟩⟩<;>simp only[List.length_nil,List.length_cons]at h<;>first|exact⟨y0,y1,y2,y3,y4,y5,y6,y7,y8,y9,y10,rfl⟩|omega
theorem zQr{H:Type}{enc:TypeId×Value->H}{W:World}(fuel:Nat)(cs:List Value)(x:DataW H×List MemPlace)(h:DataW.trod enc Tryz.prog W 0 (fun _=>true) true fuel 81 cs=some x)(hw:Wt Tryz.prog 81 x.1):∃e:Ent,VL (rdG W) W (yN e) cs∧RdE e:=by
 obtain⟨xs,n,hn,hx,hlen,hxs,hf⟩:=DataW.trod_struct Tryz.underlying81 h
 rw[hx]at hw
 have c15:Tryz.prog.cellsOf 81=15:=by kernel_rfl
 obtain⟨c0,c1,c2,c3,c4,c5,c6,c7,c8,c9,c10,c11,c12,c13,c14,rfl⟩:=zWQ cs (hlen.trans c15)
 obtain⟨y0,y1,y2,y3,y4,y5,y6,y7,y8,y9,y10,rfl⟩:=zWR xs hxs
 have kINT:Tryz.prog.cellsOf 3=1:=by kernel_rfl
 have kSTR:Tryz.prog.cellsOf 9=1:=by kernel_rfl
 have kTERM:Tryz.prog.cellsOf 39=3:=by kernel_rfl
 have kINTS:Tryz.prog.cellsOf 30=1:=by kernel_rfl
 have f0:DataW.trod enc Tryz.prog W 0 (fun _=>true) true n 3 ((List.drop 0 [c0,c1,c2,c3,c4,c5,c6,c7,c8,c9,c10,c11,c12,c13,c14]).take (Tryz.prog.cellsOf 3))=some y0:=hf 0 _ rfl
 rw[kINT]at f0
 replace f0:DataW.trod enc Tryz.prog W 0 (fun _=>true) true n 3 [c0]=some y0:=f0
 have f1:DataW.trod enc Tryz.prog W 0 (fun _=>true) true n 9 ((List.drop 1 [c0,c1,c2,c3,c4,c5,c6,c7,c8,c9,c10,c11,c12,c13,c14]).take (Tryz.prog.cellsOf 9))=some y1:=hf 1 _ rfl
 rw[kSTR]at f1
 replace f1:DataW.trod enc Tryz.prog W 0 (fun _=>true) true n 9 [c1]=some y1:=f1
 have f2:DataW.trod enc Tryz.prog W 0 (fun _=>true) true n 39 ((List.drop 2 [c0,c1,c2,c3,c4,c5,c6,c7,c8,c9,c10,c11,c12,c13,c14]).take (Tryz.prog.cellsOf 39))=some y2:=hf 2 _ rfl
 rw[kTERM]at f2
 replace f2:DataW.trod enc Tryz.prog W 0 (fun _=>true) true n 39 [c2,c3,c4]=some y2:=f2
 have f3:DataW.trod enc Tryz.prog W 0 (fun _=>true) true n 39 ((List.drop 5 [c0,c1,c2,c3,c4,c5,c6,c7,c8,c9,c10,c11,c12,c13,c14]).take (Tryz.prog.cellsOf 39))=some y3:=hf 3 _ rfl
 rw[kTERM]at f3
 replace f3:DataW.trod enc Tryz.prog W 0 (fun _=>true) true n 39 [c5,c6,c7]=some y3:=f3
 have f4:DataW.trod enc Tryz.prog W 0 (fun _=>true) true n 3 ((List.drop 8 [c0,c1,c2,c3,c4,c5,c6,c7,c8,c9,c10,c11,c12,c13,c14]).take (Tryz.prog.cellsOf 3))=some y4:=hf 4 _ rfl
 rw[kINT]at f4
 replace f4:DataW.trod enc Tryz.prog W 0 (fun _=>true) true n 3 [c8]=some y4:=f4
 have f5:DataW.trod enc Tryz.prog W 0 (fun _=>true) true n 3 ((List.drop 9 [c0,c1,c2,c3,c4,c5,c6,c7,c8,c9,c10,c11,c12,c13,c14]).take (Tryz.prog.cellsOf 3))=some y5:=hf 5 _ rfl
 rw[kINT]at f5
 replace f5:DataW.trod enc Tryz.prog W 0 (fun _=>true) true n 3 [c9]=some y5:=f5
 have f6:DataW.trod enc Tryz.prog W 0 (fun _=>true) true n 3 ((List.drop 10 [c0,c1,c2,c3,c4,c5,c6,c7,c8,c9,c10,c11,c12,c13,c14]).take (Tryz.prog.cellsOf 3))=some y6:=hf 6 _ rfl
 rw[kINT]at f6
 replace f6:DataW.trod enc Tryz.prog W 0 (fun _=>true) true n 3 [c10]=some y6:=f6
 have f7:DataW.trod enc Tryz.prog W 0 (fun _=>true) true n 3 ((List.drop 11 [c0,c1,c2,c3,c4,c5,c6,c7,c8,c9,c10,c11,c12,c13,c14]).take (Tryz.prog.cellsOf 3))=some y7:=hf 7 _ rfl
 rw[kINT]at f7
 replace f7:DataW.trod enc Tryz.prog W 0 (fun _=>true) true n 3 [c11]=some y7:=f7
 have f8:DataW.trod enc Tryz.prog W 0 (fun _=>true) true n 3 ((List.drop 12 [c0,c1,c2,c3,c4,c5,c6,c7,c8,c9,c10,c11,c12,c13,c14]).take (Tryz.prog.cellsOf 3))=some y8:=hf 8 _ rfl
 rw[kINT]at f8
 replace f8:DataW.trod enc Tryz.prog W 0 (fun _=>true) true n 3 [c12]=some y8:=f8
 have f9:DataW.trod enc Tryz.prog W 0 (fun _=>true) true n 30 ((List.drop 13 [c0,c1,c2,c3,c4,c5,c6,c7,c8,c9,c10,c11,c12,c13,c14]).take (Tryz.prog.cellsOf 30))=some y9:=hf 9 _ rfl
 rw[kINTS]at f9
 replace f9:DataW.trod enc Tryz.prog W 0 (fun _=>true) true n 30 [c13]=some y9:=f9
 have f10:DataW.trod enc Tryz.prog W 0 (fun _=>true) true n 30 ((List.drop 14 [c0,c1,c2,c3,c4,c5,c6,c7,c8,c9,c10,c11,c12,c13,c14]).take (Tryz.prog.cellsOf 30))=some y10:=hf 10 _ rfl
 rw[kINTS]at f10
 replace f10:DataW.trod enc Tryz.prog W 0 (fun _=>true) true n 30 [c14]=some y10:=f10
 obtain⟨n0,e0,-,-⟩:=DataW.trod_int Tryz.underlying3 f0
 cases e0
 obtain⟨n1,e1,-,-⟩:=DataW.trod_string Tryz.underlying9 f1
 cases e1
 obtain⟨t2,v2,o2⟩:=zBF _ _ _ f2
 obtain⟨t3,v3,o3⟩:=zBF _ _ _ f3
 obtain⟨n4,e4,-,-⟩:=DataW.trod_int Tryz.underlying3 f4
 cases e4
 obtain⟨n5,e5,-,-⟩:=DataW.trod_int Tryz.underlying3 f5
 cases e5
 obtain⟨n6,e6,-,-⟩:=DataW.trod_int Tryz.underlying3 f6
 cases e6
 obtain⟨n7,e7,-,-⟩:=DataW.trod_int Tryz.underlying3 f7
 cases e7
 obtain⟨n8,e8,-,-⟩:=DataW.trod_int Tryz.underlying3 f8
 cases e8
 obtain⟨l9,v9,o9⟩:=zLL f9 (qT Tryz.underlying81 hw (i:=9) rfl rfl)
 obtain⟨l10,v10,o10⟩:=zLL f10 (qT Tryz.underlying81 hw (i:=10) rfl rfl)
 simp only[tmL,VL]at v2 v3
 refine⟨Ent.mk n0 n1 t2 t3 n4 n5 n6 n7 n8 l9 l10,?_,o2,o3,o9,o10⟩
 simp only[yN,VL]
 exact⟨by simp only[V],by simp only[V],v2.1,v2.2.1,v2.2.2.1,v3.1,v3.2.1,v3.2.2.1,by simp only[V],by simp only[V],by simp only[V],by simp only[V],by simp only[V],v9,v10,trivial⟩
theorem zTK{H:Type}{enc:TypeId×Value->H}{W:World}{v:Value}{d:DataW H}{p:List MemPlace}(hv:∃(q:Option Addr) (m c:Nat),v = .slice q m c)
  (h:DataW.Trod enc Tryz.prog W 0 (fun _=>true) true 22 v d p) (hw:Wt Tryz.prog 22 d):∃l:List Ent,V (rdG W) W (.sl (zJ yN l) l.length .no) v∧∀e∈l,RdE e:=by
 obtain⟨q,m,c,rfl⟩:=hv
 obtain⟨fuel,hf⟩:=h
 obtain⟨l,h1,h2,-⟩:=gL yN 15 (fun _=>rfl) (by omega) (Q:=RdE) Tryz.underlying22 (by kernel_rfl) (fun m _ cs x h hw=>zQr m cs x h hw) (n:=fuel) (by simpa[Value.cells]using hf) hw
 exact⟨l,h1,h2⟩
mutual
def zKx:Nat->Tm->Int->Option Int
 |0,_,_=>none
 |qq+1,p0,p1=>
 lR qq p0 (w64 (p1+1)) 0
def lR:Nat->Tm->Int->Int->Option Int
 |0,_,_,_=>none
 |qq+1,p0,v1,v12=>
 if decide (v12<(p0.sub.length:Int))then
 zR p0.sub v12>>=fun x2=>
 if decide (v1>8192)then
 some v1
 else
 zKx qq x2 v1>>=fun r5=>
 lR qq p0 r5 (w64 (v12+1))
 else
 some v1
end
abbrev zTL (p0:Tm) (p1 r:Int) (C:Cf):Prop:=C 142 [] [tmA p0,ai p1] (ai r) [] 0
theorem yAe{p0 p1 r}(h:zTL p0 p1 r Ci):zTL p0 p1 r Ct:=⟨h,⟨⟨tv,tv,⟨tv,dT _⟩,tv⟩,tv,tv⟩,zB,tv,zB⟩
theorem zHd:∀qq:Nat,(∀p0 p1 r,zKx qq p0 p1=some r->zTL p0 p1 r Ct)∧(∀p0 v1 v12 r,lR qq p0 v1 v12=some r->(∀j,dL 0 (inn (inn (rgt (lft (rgt (rgt (bod Tryz.f142))))))) (sp j 23 0 [(1,ai v1),(10,slv zH p0.sub .no),(11,ai (p0.sub.length:Int)),(12,ai v12)]) (⟨[],0,[],0,[]⟩) (fQ 0 (nQ 0 Tryz.f142 (ai r) [] 0) [.blk 0,.seq (rgt (rgt (rgt (bod Tryz.f142))))]))):=by
 intro qq
 induction qq with
 |zero=>
  exact⟨fun _ _ _ h=>nn h,fun _ _ _ _ h=>nn h⟩
 |succ qq ih=>
  obtain⟨zYO,zHc⟩:=ih
  refine⟨?_,?_⟩
  intro p0 p1 r h
  rw[zKx]at h
  exact yAe (tH ⟨Tryz.func142,rfl⟩ 3 [] [] [] [1,10,11,12] (oD (dT p0.sub) o0) (zHc _ _ _ _ h))
  intro p0 v1 v12 r h
  rw[lR]at h
  obtain⟨h1,h⟩|⟨h1,h⟩:=spl h
  obtain⟨x2,h3,h⟩:=zC h
  have k:=oA 0 (xA (o:=.no) h3)<|oB 0 h1 o0
  obtain⟨h4,h⟩|⟨h4,h⟩:=spl h
  obtain rfl:=sj h
  exact fun j=>lF 0 [] (oB 2 h4 k)
  obtain⟨r5,h6,h⟩:=zC h
  exact fun j=>lH 1 [] [] [] [1,10,11,12] (oD (dT p0.sub)<|oC 1 [] (zYO _ _ _ h6)<|oB 2 h4 k) (zHc _ _ _ _ h)
  obtain rfl:=sj h
  exact fun j=>lF 0 [] (oB 0 h1 o0)
theorem yAd{qq p0 p1 r}(h:zKx qq p0 p1=some r):zTL p0 p1 r Ct:=(zHd _).1 _ _ _ h
def zKw(qq:Nat)(p0:Tm):Option Int:=
 zKx qq p0 0>>=fun r1=>
 some r1
theorem zWS{qq p0 r}(h:zKw qq p0=some r):Ct 106 [] [tmA p0] (ai r) [] 0:=⟨by
 unfold zKw at h
 obtain⟨r1,h2,h⟩:=zC h
 obtain rfl:=sj h
 exact tF ⟨Tryz.func106,rfl⟩ 0 [] (oC 1 [] (yAd h2) o0),⟨⟨tv,tv,⟨tv,dT _⟩,tv⟩,tv⟩,zB,tv,zB⟩
mutual
def zKv:Nat->Tm->Int->Option Int
 |0,_,_=>none
 |qq+1,p0,p1=>
 if decide (p1>128)then
 some p1
 else
 lS qq p0 p1 0 p1
def lS:Nat->Tm->Int->Int->Int->Option Int
 |0,_,_,_,_=>none
 |qq+1,p0,p1,v15,v5=>
 if decide (v15<(p0.sub.length:Int))then
 zR p0.sub v15>>=fun x3=>
 zKv qq x3 (w64 (p1+1))>>=fun r5=>
 lS qq p0 p1 (w64 (v15+1)) (lI v5 r5)
 else
 some v5
end
abbrev zTM (p0:Tm) (p1 r:Int) (C:Cf):Prop:=C 107 [] [tmA p0,ai p1] (ai r) [] 0
theorem zYP:Qf 107 Tryz.f107:=⟨Tryz.func107,rfl⟩
theorem zYQ{p0 p1 r}(h:zTM p0 p1 r Ci):zTM p0 p1 r Ct:=⟨h,⟨⟨tv,tv,⟨tv,dT _⟩,tv⟩,tv,tv⟩,zB,tv,zB⟩
theorem zHb:∀qq:Nat,(∀p0 p1 r,zKv qq p0 p1=some r->zTM p0 p1 r Ct)∧(∀p0 p1 v15 v5 r,lS qq p0 p1 v15 v5=some r->(∀j,dL 0 (inn (inn (rgt (lft (rgt (rgt (rgt (bod Tryz.f107)))))))) (sp j 27 0 [(1,ai p1),(5,ai v5),(13,slv zH p0.sub .no),(14,ai (p0.sub.length:Int)),(15,ai v15)]) (⟨[],0,[],0,[]⟩) (fQ 0 (nQ 0 Tryz.f107 (ai r) [] 0) [.blk 0,.seq (rgt (rgt (rgt (rgt (bod Tryz.f107)))))]))):=by
 intro qq
 induction qq with
 |zero=>
  exact⟨fun _ _ _ h=>nn h,fun _ _ _ _ _ h=>nn h⟩
 |succ qq ih=>
  obtain⟨zYR,zHa⟩:=ih
  refine⟨?_,?_⟩
  intro p0 p1 r h
  rw[zKv]at h
  obtain⟨h1,h⟩|⟨h1,h⟩:=spl h
  obtain rfl:=sj h
  exact zYQ (tF zYP 0 [] (oB 0 h1 o0))
  exact zYQ (tH zYP 2 [] [] [] [1,5,13,14,15] (oD (dT p0.sub)<|oB 0 h1 o0) (zHa _ _ _ _ _ h))
  intro p0 p1 v15 v5 r h
  rw[lS]at h
  obtain⟨h2,h⟩|⟨h2,h⟩:=spl h
  obtain⟨x3,h4,h⟩:=zC h
  obtain⟨r5,h6,h⟩:=zC h
  exact fun j=>lH 2 [] [] [] [1,5,13,14,15] (oD (dT p0.sub)<|oC 4 [] (zYR _ _ _ h6)<|oA 0 (xA (o:=.no) h4)<|oB 0 h2 o0) (zHa _ _ _ _ _ h)
  obtain rfl:=sj h
  exact fun j=>lF 0 [] (oB 0 h2 o0)
theorem yAc{qq p0 p1 r}(h:zKv qq p0 p1=some r):zTM p0 p1 r Ct:=(zHb _).1 _ _ _ h
def zQq(qq:Nat)(p0:Tm):Option Bool:=
 if decide (p0.k<1)then
 some false
 else
 if decide (p0.k>8)then
 some false
 else
 zR ([0,0,0,2,2,2,0,1,0]:List Int) p0.k>>=fun x3=>
 zR ([0,1048576,7,0,0,0,1048576,1048576,1048576]:List Int) p0.k>>=fun x5=>
 if (p0.sub.length:Int)==x3 then
 if decide (p0.n≥0)then
 if decide (p0.n≤x5)then
 if p0.k != 7 then
 some true
 else
 zR p0.sub 0>>=fun x11=>
 some (x11.k==2)
 else
 some false
 else
 some false
 else
 some false
theorem zKu:Qf 108 Tryz.f108:=⟨Tryz.func108,rfl⟩
theorem zYS{qq p0 r}(h:zQq qq p0=some r):Ct 108 [] [tmA p0] (ab r) [] 0:=⟨by
 unfold zQq at h
 obtain⟨h1,h⟩|⟨h1,h⟩:=spl h
 cases h
 exact tF zKu 0 [] (oB 1 h1 o0)
 have k:=oB 1 h1 o0
 obtain⟨h2,h⟩|⟨h2,h⟩:=spl h
 cases h
 exact tF zKu 0 [] (oB 1 h2 k)
 obtain⟨x3,h4,h⟩:=zC h
 obtain⟨x5,h6,h⟩:=zC h
 have k:=oA 1 (zHg h6 rfl)<|oA 1 (zHg h4 rfl)<|oB 1 h2 k
 obtain⟨h7,h⟩|⟨h7,h⟩:=spl h
 have k:=oB 2 h7 k
 obtain⟨h8,h⟩|⟨h8,h⟩:=spl h
 have k:=oB 1 h8 k
 obtain⟨h9,h⟩|⟨h9,h⟩:=spl h
 have k:=oB 1 h9 k
 obtain⟨h10,h⟩|⟨h10,h⟩:=spl h
 cases h
 exact tF zKu 0 [] (oB 1 h10 k)
 obtain⟨x11,h12,h⟩:=zC h
 cases h
 exact tF zKu 2 [] (oA 1 (xA (o:=.no) h12)<|oB 1 h10 k)
 cases h
 exact tF zKu 0 [] (oB 1 h9 k)
 cases h
 exact tF zKu 0 [] (oB 1 h8 k)
 cases h
 exact tF zKu 0 [] (oB 2 h7 k),⟨⟨tv,tv,⟨tv,dT _⟩,tv⟩,tv⟩,zB,tv,zB⟩
def e75(qq:Nat)(p0:Tm):Option Int:=
 zKw qq p0>>=fun r1=>
 if decide (r1>8192)then
 some 129
 else
 zKv qq p0 1>>=fun r4=>
 some r4
theorem q75:Qf 75 Tryz.f75:=⟨Tryz.func75,rfl⟩
theorem c75{qq p0 r}(h:e75 qq p0=some r):Ct 75 [] [tmA p0] (ai r) [] 0:=⟨by
 unfold e75 at h
 obtain⟨r1,h2,h⟩:=zC h
 have k:=oC 1 [] (zWS h2) o0
 obtain⟨h3,h⟩|⟨h3,h⟩:=spl h
 obtain rfl:=sj h
 exact tF q75 0 [] (oB 0 h3 k)
 obtain⟨r4,h5,h⟩:=zC h
 obtain rfl:=sj h
 exact tF q75 0 [] (oC 1 [] (yAc h5)<|oB 0 h3 k),⟨⟨tv,tv,⟨tv,dT _⟩,tv⟩,tv⟩,zB,tv,zB⟩
mutual
def e76:Nat->Tm->Option Bool
 |0,_=>none
 |qq+1,p0=>
 zQq qq p0>>=fun r1=>
 if r1 then
 eO qq p0 0
 else
 some false
def eO:Nat->Tm->Int->Option Bool
 |0,_,_=>none
 |qq+1,p0,v11=>
 if decide (v11<(p0.sub.length:Int))then
 zR p0.sub v11>>=fun x5=>
 e76 qq x5>>=fun r7=>
 if r7 then
 eO qq p0 (w64 (v11+1))
 else
 some false
 else
 some true
end
abbrev K76 (p0:Tm) (r:Bool) (C:Cf):Prop:=C 76 [] [tmA p0] (ab r) [] 0
theorem q76:Qf 76 Tryz.f76:=⟨Tryz.func76,rfl⟩
theorem k76{p0 r}(h:K76 p0 r Ci):K76 p0 r Ct:=⟨h,⟨⟨tv,tv,⟨tv,dT _⟩,tv⟩,tv⟩,zB,tv,zB⟩
theorem zNL:∀qq:Nat,(∀p0 r,e76 qq p0=some r->K76 p0 r Ct)∧(∀p0 v11 r,eO qq p0 v11=some r->(∀j,dL 0 (inn (inn (rgt (lft (rgt (rgt (bod Tryz.f76))))))) (sp j 19 0 [(9,slv zH p0.sub .no),(10,ai (p0.sub.length:Int)),(11,ai v11)]) (⟨[],0,[],0,[]⟩) (fQ 0 (nQ 0 Tryz.f76 (ab r) [] 0) [.blk 0,.seq (rgt (rgt (rgt (bod Tryz.f76))))]))):=by
 intro qq
 induction qq with
 |zero=>
  exact⟨fun _ _ h=>nn h,fun _ _ _ h=>nn h⟩
 |succ qq ih=>
  obtain⟨zYT,zLM⟩:=ih
  refine⟨?_,?_⟩
  intro p0 r h
  rw[e76]at h
  obtain⟨r1,h2,h⟩:=zC h
  obtain⟨h3,h⟩|⟨h3,h⟩:=spl h
  exact k76 (tH q76 3 [] [] [] [9,10,11] (oD (dT p0.sub)<|oK 1 [] h3 (zYS h2) o0) (zLM _ _ _ h))
  cases h
  exact k76 (tF q76 1 [] (oK 1 [] h3 (zYS h2) o0))
  intro p0 v11 r h
  rw[eO]at h
  obtain⟨h4,h⟩|⟨h4,h⟩:=spl h
  obtain⟨x5,h6,h⟩:=zC h
  obtain⟨r7,h8,h⟩:=zC h
  have k:=oA 0 (xA (o:=.no) h6)<|oB 0 h4 o0
  obtain⟨h9,h⟩|⟨h9,h⟩:=spl h
  exact fun j=>lH 2 [] [] [] [9,10,11] (oD (dT p0.sub)<|oK 3 [] h9 (zYT _ _ h8) k) (zLM _ _ _ h)
  cases h
  exact fun j=>lF 1 [] (oK 3 [] h9 (zYT _ _ h8) k)
  cases h
  exact fun j=>lF 0 [] (oB 0 h4 o0)
theorem c76{qq p0 r}(h:e76 qq p0=some r):K76 p0 r Ct:=(zNL _).1 _ _ h
def e52(qq:Nat)(p0:Tm):Option Bool:=
 e75 qq p0>>=fun r1=>
 if decide (r1≤128)then
 e76 qq p0>>=fun r4=>
 some r4
 else
 some false
theorem q52:Qf 52 Tryz.f52:=⟨Tryz.func52,rfl⟩
theorem c52{qq p0 r}(h:e52 qq p0=some r):Ct 52 [] [tmA p0] (ab r) [] 0:=⟨by
 unfold e52 at h
 obtain⟨r1,h2,h⟩:=zC h
 have k:=oC 1 [] (c75 h2) o0
 obtain⟨h3,h⟩|⟨h3,h⟩:=spl h
 obtain⟨r4,h5,h⟩:=zC h
 obtain rfl:=sj h
 exact tF q52 0 [] (oC 1 [] (c76 h5)<|oB 0 h3 k)
 obtain rfl:=sj h
 exact tF q52 0 [] (oB 0 h3 k),⟨⟨tv,tv,⟨tv,dT _⟩,tv⟩,tv⟩,zB,tv,zB⟩
mutual
theorem zLN:∀(t:Tm) (h:Int),t.Ok->0≤h->h≤8192->Evt (fun q=>zKx q t h) (szT t h)
 | .mk k n l,h,ho,h0,h1=>by
  refine Evt.succ ?_
  simp only[zKx]
  rw[yI (by omega) (by omega),szT]
  exact zHA l (.mk k n l) 0 (h+1) rfl ho.1 ho.2 (by omega) (by omega)
theorem zHA:∀(l:List Tm) (p:Tm) (v:Nat) (h:Int),p.sub.drop v=l->p.sub.length<9223372036854775808->OkL l->0≤h->h≤8193->Evt (fun q=>lR q p h (v:Int)) (szL l h)
 | [],p,v,h,hd,hl,ho,h0,h1=>by
  refine Evt.succ ?_
  simp only[lR]
  rw[szL]
  exact Evt.ifF (yC hd) Evt.ret
 |t::l,p,v,h,hd,hl,ho,h0,h1=>by
  refine Evt.succ ?_
  simp only[lR]
  refine Evt.ifT (yB hd) (Evt.pure (zX hd) ?_)
  rw[szL]
  by_cases h2:h>8192
  ·rw[if_pos h2];exact Evt.ifT (by simpa using h2) Evt.ret
  ·rw[if_neg h2]
   refine Evt.ifF (by simpa using h2) ((zLN t h ho.1 h0 (by omega)).bind ?_)
   rw[zU v (by have:=yE hd;omega)]
   have:=zHf t h h0 (by omega)
   exact zHA l p (v+1) (szT t h) (zS hd) hl ho.2 (by omega) (by omega)
end
theorem zFK(t:Tm)(ho:t.Ok):Evt (fun q=>zKw q t) (szT t 0):=by
 simp only[zKw]
 exact(zLN t 0 ho (by omega) (by omega)).bind Evt.ret
mutual
theorem zLO:∀(t:Tm) (a:Int),t.Ok->0≤a->a≤129->Evt (fun q=>zKv q t a) (dpT t a)
 | .mk k n l,a,ho,h0,h1=>by
  refine Evt.succ ?_
  simp only[zKv]
  rw[dpT]
  by_cases h2:a>128
  ·rw[if_pos h2];exact Evt.ifT (by simpa using h2) Evt.ret
  ·rw[if_neg h2];exact Evt.ifF (by simpa using h2) (zHB l (.mk k n l) 0 a a rfl ho.1 ho.2 h0 (by omega))
theorem zHB:∀(l:List Tm) (p:Tm) (v:Nat) (a m:Int),p.sub.drop v=l->p.sub.length<9223372036854775808->OkL l->0≤a->a≤128->Evt (fun q=>lS q p a (v:Int) m) (dpL l a m)
 | [],p,v,a,m,hd,hl,ho,h0,h1=>by
  refine Evt.succ ?_
  simp only[lS]
  rw[dpL]
  exact Evt.ifF (yC hd) Evt.ret
 |t::l,p,v,a,m,hd,hl,ho,h0,h1=>by
  refine Evt.succ ?_
  simp only[lS]
  refine Evt.ifT (yB hd) (Evt.pure (zX hd) ?_)
  rw[dpL,yI (x:=a+1) (by omega) (by omega)]
  refine(zLO t (a+1) ho.1 (by omega) (by omega)).bind ?_
  rw[zU v (by have:=yE hd;omega)]
  exact zHB l p (v+1) a _ (zS hd) hl ho.2 h0 h1
end
def zQp(t:Tm):Int:=if szT t 0>8192 then 129 else dpT t 1
theorem zQo(t:Tm)(ho:t.Ok):Evt (fun q=>e75 q t) (zQp t):=by
 simp only[e75]
 refine(zFK t ho).bind ?_
 unfold zQp
 by_cases h:szT t 0>8192
 ·rw[if_pos h];exact Evt.ifT (by simpa using h) Evt.ret
 ·rw[if_neg h];exact Evt.ifF (by simpa using h) ((zLO t 1 ho (by omega) (by omega)).bind Evt.ret)
theorem zTN(t:Tm):zQp t≤128↔t.nodes≤8192∧t.high≤128:=by
 have h1:=zQw t 0 (by omega) (by omega)
 have h2:=zQu t 1 (by omega) (by omega)
 unfold zQp
 by_cases h3:t.nodes≤8192
 ·rw[if_neg (by rw[h1.1 (by omega)];omega)]
  by_cases h4:t.high≤128
  ·rw[h2.1 (by omega)];omega
  ·rw[h2.2 (by omega)];omega
 ·rw[if_pos (by rw[h1.2 (by omega)];omega)];omega
theorem zTO(t:Tm):Evt (fun q=>zQq q t) (tT t):=by
 refine Evt.mk fun q=>?_
 unfold zQq tT
 generalize t.k=k
 generalize t.n=n
 generalize t.sub=l
 by_cases h1:k<1
 ·rw[zTE (decide_eq_true h1)];simp;omega
 ·by_cases h2:k>8
  ·rw[zPT (decide_eq_false h1),zTE (decide_eq_true h2)];simp;omega
  ·rw[zPT (decide_eq_false h1),zPT (decide_eq_false h2)]
   have:k=1∨k=2∨k=3∨k=4∨k=5∨k=6∨k=7∨k=8:=by omega
   rcases this with rfl|rfl|rfl|rfl|rfl|rfl|rfl|rfl
   case inr.inr.inr.inr.inr.inr.inl=>
    rcases l with _|⟨x,_|⟨y,l⟩⟩<;>simp[zR]<;>grind
   case inr.inr.inl|inr.inr.inr.inl|inr.inr.inr.inr.inl=>
    by_cases hl:l.length=2
    ·simp[zR,hl];grind
    ·have h':¬((l.length:Int)=2):=by omega
     simp[zR,hl,h']
   all_goals (simp[zR];grind)
mutual
theorem zLP:∀(t:Tm),t.Ok->Evt (fun q=>e76 q t) (yY t)
 | .mk k n l,ho=>by
  refine Evt.succ ?_
  simp only[e76]
  refine(zTO (.mk k n l)).bind ?_
  rw[yY]
  cases tT (.mk k n l)with
  |false=>exact Evt.ifF rfl Evt.ret
  |true=>exact Evt.ifT rfl (zHC l (.mk k n l) 0 rfl ho.1 ho.2)
theorem zHC:∀(l:List Tm) (p:Tm) (v:Nat),p.sub.drop v=l->p.sub.length<9223372036854775808->OkL l->Evt (fun q=>eO q p (v:Int)) (wH l)
 | [],p,v,hd,hl,ho=>by
  refine Evt.succ ?_
  simp only[eO]
  rw[wH]
  exact Evt.ifF (yC hd) Evt.ret
 |t::l,p,v,hd,hl,ho=>by
  refine Evt.succ ?_
  simp only[eO]
  refine Evt.ifT (yB hd) (Evt.pure (zX hd) ((zLP t ho.1).bind ?_))
  rw[wH]
  cases yY t with
  |false=>exact Evt.ifF rfl Evt.ret
  |true=>
   refine Evt.ifT rfl ?_
   rw[zU v (by have:=yE hd;omega)]
   exact zHC l p (v+1) (zS hd) hl ho.2
end
theorem yQ(t:Tm)(ho:t.Ok):Evt (fun q=>e52 q t) (zM t):=by
 simp only[e52]
 refine(zQo t ho).bind ?_
 have h:=zTN t
 unfold zM
 by_cases h1:zQp t≤128
 ·refine Evt.ifT (by simpa using h1) (((zLP t ho).bind Evt.ret).eq ?_)
  have:=h.1 h1
  simp[this.1,this.2]
 ·refine Evt.ifF (by simpa using h1) (Evt.ret.eq ?_)
  by_cases h2:t.nodes≤8192
  ·by_cases h3:t.high≤128
   ·exact absurd (h.2 ⟨h2,h3⟩) h1
   ·simp[h3]
  ·simp[h2]
def zQn(qq:Nat)(p0:Tm)(p1:Int):Option Int:=
 if p1==1 then
 if p0.k==3 then
 some 1
 else
 if p0.k==4 then
 some 1
 else
 some 0
 else
 some 0
theorem zTP:Qf 182 Tryz.f182:=⟨Tryz.func182,rfl⟩
theorem yAb{qq p0 p1 r}(h:zQn qq p0 p1=some r):Ct 182 [] [tmA p0,ai p1] (ai r) [] 0:=⟨by
 unfold zQn at h
 obtain⟨h1,h⟩|⟨h1,h⟩:=spl h
 have k:=oB 0 h1 o0
 obtain⟨h2,h⟩|⟨h2,h⟩:=spl h
 cases h
 exact tF zTP 0 [] (oB 1 h2 k)
 have k:=oB 1 h2 k
 obtain⟨h3,h⟩|⟨h3,h⟩:=spl h
 cases h
 exact tF zTP 0 [] (oB 1 h3 k)
 cases h
 exact tF zTP 0 [] (oB 1 h3 k)
 cases h
 exact tF zTP 0 [] (oB 0 h1 o0),⟨⟨tv,tv,⟨tv,dT _⟩,tv⟩,tv,tv⟩,zB,tv,zB⟩
mutual
def zHD:Nat->Tm->Int->Option Int
 |0,_,_=>none
 |qq+1,p0,p1=>
 if p0.k==1 then
 some (lI 0 (w64 ((w64 (p0.n+1))-p1)))
 else
 lT qq p0 p1 0 0
def lT:Nat->Tm->Int->Int->Int->Option Int
 |0,_,_,_,_=>none
 |qq+1,p0,p1,v20,v5=>
 if decide (v20<(p0.sub.length:Int))then
 zR p0.sub v20>>=fun x3=>
 zQn qq p0 v20>>=fun r5=>
 zHD qq x3 (w64 (p1+r5))>>=fun r7=>
 lT qq p0 p1 (w64 (v20+1)) (lI v5 r7)
 else
 some v5
end
abbrev zTQ (p0:Tm) (p1 r:Int) (C:Cf):Prop:=C 145 [] [tmA p0,ai p1] (ai r) [] 0
theorem zYU:Qf 145 Tryz.f145:=⟨Tryz.func145,rfl⟩
theorem zYV{p0 p1 r}(h:zTQ p0 p1 r Ci):zTQ p0 p1 r Ct:=⟨h,⟨⟨tv,tv,⟨tv,dT _⟩,tv⟩,tv,tv⟩,zB,tv,zB⟩
theorem zHE:∀qq:Nat,(∀p0 p1 r,zHD qq p0 p1=some r->zTQ p0 p1 r Ct)∧(∀p0 p1 v20 v5 r,lT qq p0 p1 v20 v5=some r->(∀j,dL 0 (inn (inn (rgt (lft (rgt (rgt (rgt (bod Tryz.f145)))))))) (sp j 36 0 [(1,ai p1),(2,.mp 0 0),(5,ai v5),(18,slv zH p0.sub .no),(19,ai (p0.sub.length:Int)),(20,ai v20)]) (⟨[(0,.cells [ai p0.k,ai p0.n,slv zH p0.sub .no])],1,[],0,[]⟩) (fQ 0 (nQ 0 Tryz.f145 (ai r) [] 0) [.blk 0,.seq (rgt (rgt (rgt (rgt (bod Tryz.f145)))))]))):=by
 intro qq
 induction qq with
 |zero=>
  exact⟨fun _ _ _ h=>nn h,fun _ _ _ _ _ h=>nn h⟩
 |succ qq ih=>
  obtain⟨zYW,zHF⟩:=ih
  refine⟨?_,?_⟩
  intro p0 p1 r h
  rw[zHD]at h
  obtain⟨h1,h⟩|⟨h1,h⟩:=spl h
  obtain rfl:=sj h
  exact zYV (tF zYU 4 [] (oB 1 h1 o0))
  exact zYV (tH zYU 2 [] [0] [] [1,2,5,18,19,20] (oD (dT p0.sub)<|oD (dT p0.sub)<|oB 1 h1 o0) (zHF _ _ _ _ _ h))
  intro p0 p1 v20 v5 r h
  rw[lT]at h
  obtain⟨h2,h⟩|⟨h2,h⟩:=spl h
  obtain⟨x3,h4,h⟩:=zC h
  obtain⟨r5,h6,h⟩:=zC h
  obtain⟨r7,h8,h⟩:=zC h
  exact fun j=>lH 2 [] [0] [] [1,2,5,18,19,20] (oD (dT p0.sub)<|oD (dT p0.sub)<|oC 1 [] (zYW _ _ _ h8)<|oC 4 [] (yAb h6)<|oA 0 (xA (o:=.no) h4)<|oB 0 h2 o0) (zHF _ _ _ _ _ h)
  obtain rfl:=sj h
  exact fun j=>lF 0 [] (oB 0 h2 o0)
theorem zYX{qq p0 p1 r}(h:zHD qq p0 p1=some r):zTQ p0 p1 r Ct:=(zHE _).1 _ _ _ h
mutual
def zHG:Nat->Tm->Int->Int->Option (List Int)
 |0,_,_,_=>none
 |qq+1,p0,p1,p2=>
 if p0.k==p1 then
 yT 8 ([]:List Int) [p0.n]>>=fun l2=>
 pE qq p0 p1 p2 0 l2
 else
 if p0.k==p2 then
 yT 8 ([]:List Int) [p0.n]>>=fun l5=>
 pE qq p0 p1 p2 0 l5
 else
 pE qq p0 p1 p2 0 []
def pE:Nat->Tm->Int->Int->Int->List Int->Option (List Int)
 |0,_,_,_,_,_=>none
 |qq+1,p0,p1,p2,v28,v7=>
 if decide (v28<(p0.sub.length:Int))then
 zR p0.sub v28>>=fun x5=>
 zHG qq x5 p1 p2>>=fun r7=>
 yT 8 v7 r7>>=fun l9=>
 pE qq p0 p1 p2 (w64 (v28+1)) l9
 else
 some v7
end
abbrev zTR (p0:Tm) (p1 p2:Int) (r:List Int) (C:Cf):Prop:=C 172 [] [tmA p0,ai p1,ai p2] (slv zV r (.st 0 1)) [] 1
theorem zWT:Qf 172 Tryz.f172:=⟨Tryz.func172,rfl⟩
theorem zWU{p0 p1 p2 r}(h:zTR p0 p1 p2 r Ci):zTR p0 p1 p2 r Ct:=⟨h,⟨⟨tv,tv,⟨tv,dT _⟩,tv⟩,tv,tv,tv⟩,zB,dI _,zB⟩
theorem zHH:∀qq:Nat,(∀p0 p1 p2 r,zHG qq p0 p1 p2=some r->zTR p0 p1 p2 r Ct)∧(∀p0 p1 p2 v28 v7 r,pE qq p0 p1 p2 v28 v7=some r->(∀j,dL 0 (inn (inn (rgt (lft (rgt (rgt (rgt (bod Tryz.f172)))))))) (sp j 40 0 [(1,ai p1),(2,ai p2),(7,slv zV v7 (.st 0 1)),(26,slv zH p0.sub .no),(27,ai (p0.sub.length:Int)),(28,ai v28)]) (⟨[],0,[0],1,[]⟩) (fQ 0 (nQ 0 Tryz.f172 (slv zV r (.st 0 1)) [] 1) [.blk 0,.seq (rgt (rgt (rgt (rgt (bod Tryz.f172)))))]))∧(∀j,dL 0 (inn (inn (rgt (lft (rgt (rgt (rgt (bod Tryz.f172)))))))) (sp j 40 0 [(1,ai p1),(2,ai p2),(7,slv zV v7 .nl),(26,slv zH p0.sub .no),(27,ai (p0.sub.length:Int)),(28,ai v28)]) (⟨[],0,[],0,[]⟩) (fQ 0 (nQ 0 Tryz.f172 (slv zV r (.st 0 1)) [] 1) [.blk 0,.seq (rgt (rgt (rgt (rgt (bod Tryz.f172)))))]))):=by
 intro qq
 induction qq with
 |zero=>
  exact⟨fun _ _ _ _ h=>nn h,fun _ _ _ _ _ _ h=>nn h⟩
 |succ qq ih=>
  obtain⟨zWx,pV⟩:=ih
  refine⟨?_,?_⟩
  intro p0 p1 p2 r h
  rw[zHG]at h
  obtain⟨h1,h⟩|⟨h1,h⟩:=spl h
  obtain⟨l2,h3,h⟩:=zC h
  exact zWU (tH zWT 2 [] [] [0] [1,2,7,26,27,28] (oD (dT p0.sub)<|oD (dI l2)<|oP 2 (mI h3 (by simp))<|oB 1 h1 o0) ((pV _ _ _ _ _ _ h).1))
  have k:=oB 1 h1 o0
  obtain⟨h4,h⟩|⟨h4,h⟩:=spl h
  obtain⟨l5,h6,h⟩:=zC h
  exact zWU (tH zWT 2 [] [] [0] [1,2,7,26,27,28] (oD (dT p0.sub)<|oD (dI l5)<|oP 2 (mI h6 (by simp))<|oB 1 h4 k) ((pV _ _ _ _ _ _ h).1))
  exact zWU (tH zWT 2 [] [] [] [1,2,7,26,27,28] (oD (dT p0.sub)<|oD (dI ([]:List Int))<|oB 1 h4 k) ((pV _ _ _ _ _ _ h).2))
  intro p0 p1 p2 v28 v7 r h
  rw[pE]at h
  refine⟨?_,?_⟩
  obtain⟨h4,h⟩|⟨h4,h⟩:=spl h
  obtain⟨x5,h6,h⟩:=zC h
  obtain⟨r7,h8,h⟩:=zC h
  obtain⟨l9,h10,h⟩:=zC h
  have k:=oC 3 [] (zWx _ _ _ _ h8)<|oA 0 (xA (o:=.no) h6)<|oB 0 h4 o0
  by_cases h11:List.length r7=0
  exact fun j=>lH 1 [] [] [0] [1,2,7,26,27,28] (oD (dT p0.sub)<|oD (dI l9)<|oP 0 (zPV h10 h11) k) ((pV _ _ _ _ _ _ h).1)
  exact fun j=>lH 1 [] [] [2] [1,2,7,26,27,28] (oD (dT p0.sub)<|oD (dI l9)<|oP 0 (mI h10 h11) k) ((pV _ _ _ _ _ _ h).1)
  obtain rfl:=sj h
  exact fun j=>lG 0 [] [] [0] true (oD (dI v7)<|oB 0 h4 o0)
  obtain⟨h4,h⟩|⟨h4,h⟩:=spl h
  obtain⟨x5,h6,h⟩:=zC h
  obtain⟨r7,h8,h⟩:=zC h
  obtain⟨l9,h10,h⟩:=zC h
  have k:=oC 3 [] (zWx _ _ _ _ h8)<|oA 0 (xA (o:=.no) h6)<|oB 0 h4 o0
  by_cases h11:List.length r7=0
  exact fun j=>lH 1 [] [] [] [1,2,7,26,27,28] (oD (dT p0.sub)<|oD (dI l9)<|oP 0 (zPV h10 h11) k) ((pV _ _ _ _ _ _ h).2)
  exact fun j=>lH 1 [] [] [1] [1,2,7,26,27,28] (oD (dT p0.sub)<|oD (dI l9)<|oP 0 (mI h10 h11) k) ((pV _ _ _ _ _ _ h).1)
  obtain rfl:=sj h
  exact fun j=>lG 0 [(none,6,1)] [] [0] true (oD (dI v7)<|oB 0 h4 o0)
theorem zYY{qq p0 p1 p2 r}(h:zHG qq p0 p1 p2=some r):zTR p0 p1 p2 r Ct:=(zHH _).1 _ _ _ _ h
def zQm(qq:Nat)(p0:Tm):Option (List Int):=
 (e52 qq p0)>>=fun r1=>
 if r1=true then
  (zHG qq p0 6 7)>>=fun r4=>
  if decide (List.length r4<4611686018427387904)=true then some (wD r4)else none
 else
  some []
theorem yAa{qq:Nat}{p0:Tm}{r:List Int}(h:zQm qq p0=some r):CT Tryz.prog 146 [] [tmA p0] (.sl (zJ zV r) r.length .no) [] 0:=by
 unfold zQm at h
 obtain⟨r1,h2,h⟩:=zC h
 rcases zCE r1 with h3|h3
 ·replace h:=ifT h3 h
  obtain⟨l,h5,h⟩:=zC h
  rcases zCE (decide (List.length l<4611686018427387904))with h6|h6
  ·replace h:=ifT h6 h
   replace h:=Option.some.inj h
   subst h
   subst h3
   have hsz:List.length l<4611686018427387904:=by simpa using h6
   refine⟨?_,⟨⟨trivial,trivial,⟨trivial,dT _⟩,trivial⟩,trivial⟩,(fun _ h=>nomatch h),dI _,(fun _ h=>nomatch h)⟩
   have k0:knd (bod Tryz.f146)=1:=by kernel_rfl
   have k1:knd (rgt (bod Tryz.f146))=1:=by kernel_rfl
   have k2:knd (rgt (rgt (bod Tryz.f146)))=1:=by kernel_rfl
   have k3:cP (lft (rgt (rgt (bod Tryz.f146))))=true:=by kernel_rfl
   have k4:zFC (xO (lft (rgt (rgt (bod Tryz.f146)))))[2]? = some (some 8,171,#[.tmp 7]):=by kernel_rfl
   have k5:(Tryz.f171.name == "runtime.NumGoroutine")=false:=by kernel_rfl
   have k6:Tryz.f171.body.isNone=false:=by kernel_rfl
   have x1:rS Tryz.prog rA 3000 (.run (lft (bod Tryz.f146))) [] ([tmA p0]++List.replicate (Tryz.f146.ntmps-1) (.val undef)) (st0 []) []=some (.fin .normal,[tmA p0,.mp 0 0,.sl [] 0 .nl,.val undef,.val undef,.val undef,.val undef,.val undef,.val undef],⟨[(0,.cells (tmL p0))],1,[],0,[]⟩,[],[]):=by kernel_rfl
   have x2:rS Tryz.prog rA 3000 (.run (lft (rgt (bod Tryz.f146)))) [] [tmA p0,.mp 0 0,.sl [] 0 .nl,.val undef,.val undef,.val undef,.val undef,.val undef,.val undef] ⟨[(0,.cells (tmL p0))],1,[],0,[]⟩ [.no,.call [] [] 0 (ab true) (some true),.no]=some (.fin .normal,[tmA p0,.mp 0 0,.sl [] 0 .nl,tmA p0,ab true,ab false,.val undef,.val undef,.val undef],⟨[(0,.cells (tmL p0))],1,[],0,[]⟩,[],[.bit true true,.call 52 [] [tmA p0] (ab true) [] 0]):=by kernel_rfl
   have x3:(fB Tryz.prog rA (xO (lft (rgt (rgt (bod Tryz.f146))))) ((xO (lft (rgt (rgt (bod Tryz.f146))))).toList.take 2) 0 [tmA p0,.mp 0 0,.sl [] 0 .nl,tmA p0,ab true,ab false,.val undef,.val undef,.val undef] ⟨[(0,.cells (tmL p0))],1,[],0,[]⟩ [.no,.call [] [] 1 (.sl (zJ zV l) l.length (.st 0 1)) none]).map Prod.snd=some ([tmA p0,.mp 0 0,.sl [] 0 .nl,tmA p0,ab true,ab false,tmA p0,.sl (zJ zV l) l.length (.st 0 1),.val undef],⟨[(0,.cells (tmL p0))],1,[0],1,[]⟩,[],[.call 172 [] [tmA p0,ai 6,ai 7] (.sl (zJ zV l) l.length (.st 0 1)) [] 1]):=by kernel_rfl
   have x4:∀j:Nat->Value,(fB Tryz.prog rA (xO (lft (rgt (rgt (bod Tryz.f146))))) ((xO (lft (rgt (rgt (bod Tryz.f146))))).toList.drop 3) 3 (eset (tells [] (mutEnv [] j [tmA p0,.mp 0 0,.sl [] 0 .nl,tmA p0,ab true,ab false,tmA p0,.sl (zJ zV l) l.length (.st 0 1),.val undef] 0)) (some 8) (.sl (zJ zV (wD l)) (wD l).length .no)) (qX [] ⟨[(0,.cells (tmL p0))],1,[0],1,[]⟩) []).map Prod.snd=some ([.val (j 0),.val (j 1),.sl (zJ zV (wD l)) (wD l).length .no,.val (j 3),ab true,ab false,.val (j 6),.val (j 7),.sl (zJ zV (wD l)) (wD l).length .no],⟨[],1,[],0,[]⟩,[],[]):=fun j=>by kernel_rfl
   have x5:∀j:Nat->Value,eH Tryz.prog rA 0 Tryz.f146 3000 (.run (rgt (rgt (rgt (bod Tryz.f146))))) [] [.val (j 0),.val (j 1),.sl (zJ zV (wD l)) (wD l).length .no,.val (j 3),ab true,ab false,.val (j 6),.val (j 7),.sl (zJ zV (wD l)) (wD l).length .no] ⟨[],1,[],0,[]⟩ [] [] [] [] false=some (.sl (zJ zV (wD l)) (wD l).length .no,[],[.data (zJ zV (wD l))]):=fun j=>by kernel_rfl
   refine vZ.body Tryz.func146 (by kernel_rfl) ?_
   refine Dv.seqP k0 ?_
   refine nF (Q:=_) xL mixed 3000 (.run (lft (bod Tryz.f146))) [] _ _ _ _ _ _ _ _ x1 zZ.nil ?_
   refine Dv.seqP k1 ?_
   refine nF (Q:=_) xL mixed 3000 (.run (lft (rgt (bod Tryz.f146)))) [] _ _ _ _ _ _ _ _ x2 (zZ.cons (mG rfl) (zZ.cons (zAx (c52 h2)) zZ.nil)) ?_
   refine Dv.seqP k2 ?_
   obtain⟨id,k7⟩:=zTb k3
   rw[k7]
   refine Dv.mut xL (na:=(0:Nat)) rfl 2 [] [] _ x3 (zZ.cons (zAx (zYY h5)) zZ.nil) k4 Tryz.func171 k5 k6 (fun i X h=>by cases h) ?_ x4 zZ.nil ?_
   ·intro G0 W hB G w hE hR u hu
    refine(zEe hR (by rfl) hsz hu).mono ?_
    rintro e w' ⟨v,b,S,z1,z2,z3,z4,z5,z6⟩
    exact⟨v,b,S,z1,z2,z3,z4,z5,fun G' _ _ hS=>⟨z6 G' hS,fun q hq=>by cases hq⟩⟩
   ·intro j
    exact gH (na:=(0:Nat)) xL mixed (x5 j) (zZ.cons (rB (dI _)) zZ.nil) (by decide)
  ·replace h:=ifF h6 h
   cases h
 ·replace h:=ifF h3 h
  replace h:=Option.some.inj h
  subst h
  exact⟨vZ.toFin xL mixed Tryz.func146 (by kernel_rfl) 3000 [.no,.call [] [] 0 (ab r1) (some false),.no] [] [] [] false (by kernel_rfl) (zZ.cons (mG h3) (zZ.cons (zAx (c52 h2)) (zZ.cons (rB (dI ([]:List Int))) zZ.nil))) (by decide),⟨⟨trivial,trivial,⟨trivial,dT _⟩,trivial⟩,trivial⟩,(fun _ h=>nomatch h),dI _,(fun _ h=>nomatch h)⟩
def zFL(qq:Nat)(p0:Tm)(p1 p2:Int):Option Bool:=
 e52 qq p0>>=fun r1=>
 if r1 then
 zHD qq p0 0>>=fun r4=>
 if decide (r4>p1)then
 some false
 else
 zQm qq p0>>=fun r7=>
 if (r7.length:Int)==0 then
 some true
 else
 zR r7 (w64 ((r7.length:Int)-1))>>=fun x10=>
 some (decide (x10<p2))
 else
 some false
theorem zTS:Qf 112 Tryz.f112:=⟨Tryz.func112,rfl⟩
theorem zHI{qq p0 p1 p2 r}(h:zFL qq p0 p1 p2=some r):Ct 112 [] [tmA p0,ai p1,ai p2] (ab r) [] 0:=⟨by
 unfold zFL at h
 obtain⟨r1,h2,h⟩:=zC h
 obtain⟨h3,h⟩|⟨h3,h⟩:=spl h
 obtain⟨r4,h5,h⟩:=zC h
 have k:=oC 2 [] (zYX h5)<|oK 1 [] h3 (c52 h2) o0
 obtain⟨h6,h⟩|⟨h6,h⟩:=spl h
 cases h
 exact tF zTS 0 [] (oB 0 h6 k)
 obtain⟨r7,h8,h⟩:=zC h
 have k:=oC 1 [] (yAa h8)<|oB 0 h6 k
 obtain⟨h9,h⟩|⟨h9,h⟩:=spl h
 cases h
 exact tF zTS 0 [] (oB 1 h9 k)
 obtain⟨x10,h11,h⟩:=zC h
 cases h
 exact tF zTS 2 [] (oA 2 (fD (o:=.no) h11)<|oB 1 h9 k)
 cases h
 exact tF zTS 1 [] (oK 1 [] h3 (c52 h2) o0),⟨⟨tv,tv,⟨tv,dT _⟩,tv⟩,tv,tv,tv⟩,zB,tv,zB⟩
def zFM(qq:Nat)(p0:Tm):Option (List Int):=
 (e52 qq p0)>>=fun r1=>
 if r1=true then
  (zHG qq p0 8 8)>>=fun r4=>
  if decide (List.length r4<4611686018427387904)=true then some (wD r4)else none
 else
  some []
theorem zQl{qq:Nat}{p0:Tm}{r:List Int}(h:zFM qq p0=some r):CT Tryz.prog 134 [] [tmA p0] (.sl (zJ zV r) r.length .no) [] 0:=by
 unfold zFM at h
 obtain⟨r1,h2,h⟩:=zC h
 rcases zCE r1 with h3|h3
 ·replace h:=ifT h3 h
  obtain⟨l,h5,h⟩:=zC h
  rcases zCE (decide (List.length l<4611686018427387904))with h6|h6
  ·replace h:=ifT h6 h
   replace h:=Option.some.inj h
   subst h
   subst h3
   have hsz:List.length l<4611686018427387904:=by simpa using h6
   refine⟨?_,⟨⟨trivial,trivial,⟨trivial,dT _⟩,trivial⟩,trivial⟩,(fun _ h=>nomatch h),dI _,(fun _ h=>nomatch h)⟩
   have k0:knd (bod Tryz.f134)=1:=by kernel_rfl
   have k1:knd (rgt (bod Tryz.f134))=1:=by kernel_rfl
   have k2:knd (rgt (rgt (bod Tryz.f134)))=1:=by kernel_rfl
   have k3:cP (lft (rgt (rgt (bod Tryz.f134))))=true:=by kernel_rfl
   have k4:zFC (xO (lft (rgt (rgt (bod Tryz.f134)))))[2]? = some (some 8,171,#[.tmp 7]):=by kernel_rfl
   have k5:(Tryz.f171.name == "runtime.NumGoroutine")=false:=by kernel_rfl
   have k6:Tryz.f171.body.isNone=false:=by kernel_rfl
   have x1:rS Tryz.prog rA 3000 (.run (lft (bod Tryz.f134))) [] ([tmA p0]++List.replicate (Tryz.f134.ntmps-1) (.val undef)) (st0 []) []=some (.fin .normal,[tmA p0,.mp 0 0,.sl [] 0 .nl,.val undef,.val undef,.val undef,.val undef,.val undef,.val undef],⟨[(0,.cells (tmL p0))],1,[],0,[]⟩,[],[]):=by kernel_rfl
   have x2:rS Tryz.prog rA 3000 (.run (lft (rgt (bod Tryz.f134)))) [] [tmA p0,.mp 0 0,.sl [] 0 .nl,.val undef,.val undef,.val undef,.val undef,.val undef,.val undef] ⟨[(0,.cells (tmL p0))],1,[],0,[]⟩ [.no,.call [] [] 0 (ab true) (some true),.no]=some (.fin .normal,[tmA p0,.mp 0 0,.sl [] 0 .nl,tmA p0,ab true,ab false,.val undef,.val undef,.val undef],⟨[(0,.cells (tmL p0))],1,[],0,[]⟩,[],[.bit true true,.call 52 [] [tmA p0] (ab true) [] 0]):=by kernel_rfl
   have x3:(fB Tryz.prog rA (xO (lft (rgt (rgt (bod Tryz.f134))))) ((xO (lft (rgt (rgt (bod Tryz.f134))))).toList.take 2) 0 [tmA p0,.mp 0 0,.sl [] 0 .nl,tmA p0,ab true,ab false,.val undef,.val undef,.val undef] ⟨[(0,.cells (tmL p0))],1,[],0,[]⟩ [.no,.call [] [] 1 (.sl (zJ zV l) l.length (.st 0 1)) none]).map Prod.snd=some ([tmA p0,.mp 0 0,.sl [] 0 .nl,tmA p0,ab true,ab false,tmA p0,.sl (zJ zV l) l.length (.st 0 1),.val undef],⟨[(0,.cells (tmL p0))],1,[0],1,[]⟩,[],[.call 172 [] [tmA p0,ai 8,ai 8] (.sl (zJ zV l) l.length (.st 0 1)) [] 1]):=by kernel_rfl
   have x4:∀j:Nat->Value,(fB Tryz.prog rA (xO (lft (rgt (rgt (bod Tryz.f134))))) ((xO (lft (rgt (rgt (bod Tryz.f134))))).toList.drop 3) 3 (eset (tells [] (mutEnv [] j [tmA p0,.mp 0 0,.sl [] 0 .nl,tmA p0,ab true,ab false,tmA p0,.sl (zJ zV l) l.length (.st 0 1),.val undef] 0)) (some 8) (.sl (zJ zV (wD l)) (wD l).length .no)) (qX [] ⟨[(0,.cells (tmL p0))],1,[0],1,[]⟩) []).map Prod.snd=some ([.val (j 0),.val (j 1),.sl (zJ zV (wD l)) (wD l).length .no,.val (j 3),ab true,ab false,.val (j 6),.val (j 7),.sl (zJ zV (wD l)) (wD l).length .no],⟨[],1,[],0,[]⟩,[],[]):=fun j=>by kernel_rfl
   have x5:∀j:Nat->Value,eH Tryz.prog rA 0 Tryz.f134 3000 (.run (rgt (rgt (rgt (bod Tryz.f134))))) [] [.val (j 0),.val (j 1),.sl (zJ zV (wD l)) (wD l).length .no,.val (j 3),ab true,ab false,.val (j 6),.val (j 7),.sl (zJ zV (wD l)) (wD l).length .no] ⟨[],1,[],0,[]⟩ [] [] [] [] false=some (.sl (zJ zV (wD l)) (wD l).length .no,[],[.data (zJ zV (wD l))]):=fun j=>by kernel_rfl
   refine vZ.body Tryz.func134 (by kernel_rfl) ?_
   refine Dv.seqP k0 ?_
   refine nF (Q:=_) xL mixed 3000 (.run (lft (bod Tryz.f134))) [] _ _ _ _ _ _ _ _ x1 zZ.nil ?_
   refine Dv.seqP k1 ?_
   refine nF (Q:=_) xL mixed 3000 (.run (lft (rgt (bod Tryz.f134)))) [] _ _ _ _ _ _ _ _ x2 (zZ.cons (mG rfl) (zZ.cons (zAx (c52 h2)) zZ.nil)) ?_
   refine Dv.seqP k2 ?_
   obtain⟨id,k7⟩:=zTb k3
   rw[k7]
   refine Dv.mut xL (na:=(0:Nat)) rfl 2 [] [] _ x3 (zZ.cons (zAx (zYY h5)) zZ.nil) k4 Tryz.func171 k5 k6 (fun i X h=>by cases h) ?_ x4 zZ.nil ?_
   ·intro G0 W hB G w hE hR u hu
    refine(zEe hR (by rfl) hsz hu).mono ?_
    rintro e w' ⟨v,b,S,z1,z2,z3,z4,z5,z6⟩
    exact⟨v,b,S,z1,z2,z3,z4,z5,fun G' _ _ hS=>⟨z6 G' hS,fun q hq=>by cases hq⟩⟩
   ·intro j
    exact gH (na:=(0:Nat)) xL mixed (x5 j) (zZ.cons (rB (dI _)) zZ.nil) (by decide)
  ·replace h:=ifF h6 h
   cases h
 ·replace h:=ifF h3 h
  replace h:=Option.some.inj h
  subst h
  exact⟨vZ.toFin xL mixed Tryz.func134 (by kernel_rfl) 3000 [.no,.call [] [] 0 (ab r1) (some false),.no] [] [] [] false (by kernel_rfl) (zZ.cons (mG h3) (zZ.cons (zAx (c52 h2)) (zZ.cons (rB (dI ([]:List Int))) zZ.nil))) (by decide),⟨⟨trivial,trivial,⟨trivial,dT _⟩,trivial⟩,trivial⟩,(fun _ h=>nomatch h),dI _,(fun _ h=>nomatch h)⟩
theorem zFN(a b:Int):lI a b=max a b:=by unfold lI;split<;>omega
theorem vB{k n:Int}{l:List Tm}(h:yY (.mk k n l)=true):tT (.mk k n l)=true∧wH l=true:=by
 rw[yY]at h;simpa using h
theorem xX{t:Tm}{l:List Tm}(h:wH (t::l)=true):yY t=true∧wH l=true:=by
 rw[wH]at h;simpa using h
theorem lU{k n:Int}{l:List Tm}(h:tT (.mk k n l)=true):0≤n∧n≤1048576∧1≤k∧k≤8∧l.length≤2:=by
 have:=uP h
 exact⟨this.2.2.1,this.2.2.2.1,this.1,this.2.1,this.2.2.2.2.1⟩
mutual
theorem sM:∀t:Tm,yY t=true->t.Ok
 | .mk k n l,h=>by
  have h1:=vB h
  rw[Tm.Ok]
  exact⟨by have:=(lU h1.1).2.2.2.2;omega,zHJ l h1.2⟩
theorem zHJ:∀l:List Tm,wH l=true->OkL l
 | [],_=>by rw[OkL];trivial
 |t::l,h=>by
  have:=xX h
  rw[OkL]
  exact⟨sM t this.1,zHJ l this.2⟩
end
mutual
theorem zTT:∀(t:Tm) (b:Int),0≤oZ t b
 | .mk k n l,b=>by
  rw[oZ];split
  ·omega
  ·exact zFO l k 0 b
theorem zFO:∀(l:List Tm) (k:Int) (i:Nat) (b:Int),0≤jL l k i b
 | [],k,i,b=>by rw[jL];omega
 |t::l,k,i,b=>by rw[jL];have:=zTT t (b+eN k i);omega
end
theorem zQk(t:Tm)(i:Nat):Evt (fun q=>zQn q t (i:Int)) (eN t.k i):=by
 refine Evt.mk fun q=>?_
 simp only[zQn,eN]
 by_cases h1:i=1
 ·subst h1;simp;by_cases h3:t.k=3<;>by_cases h4:t.k=4<;>simp[h3,h4]
 ·have:¬((i:Int)=1):=by omega
  simp[h1,this]
theorem zLQ(k:Int)(i:Nat):0≤eN k i∧eN k i≤1:=by unfold eN;split<;>omega
mutual
theorem zCH:∀(t:Tm) (b:Int),yY t=true->0≤b->b+t.high≤4611686018427387904->Evt (fun q=>zHD q t b) (oZ t b)
 | .mk k n l,b,hg,h0,h1=>by
  refine Evt.succ ?_
  simp only[zHD,Tm.k,Tm.n]
  have hh:=vB hg
  have hn:=lU hh.1
  rw[oZ]
  by_cases hk:k=1
  ·rw[if_pos hk]
   rw[Tm.high]at h1
   refine Evt.ifT (by simpa using hk) (Evt.ret.eq ?_)
   rw[yI (x:=n+1) (by omega) (by omega),yI (by omega) (by omega),zFN]
  ·rw[if_neg hk]
   refine Evt.ifF (by simpa using hk) ?_
   rw[Tm.high]at h1
   exact(zEA l (.mk k n l) 0 b 0 rfl (by have:=hn.2.2.2.2;simp only[Tm.sub];omega) hh.2 h0 (by omega) (by omega)).eq (by have:=zFO l k 0 b;simp only[Tm.k];omega)
theorem zEA:∀(l:List Tm) (p:Tm) (v:Nat) (b m:Int),p.sub.drop v=l->p.sub.length<9223372036854775808->wH l=true->0≤b->0≤m->b+1+wT l≤4611686018427387904->Evt (fun q=>lT q p b (v:Int) m) (max m (jL l p.k v b))
 | [],p,v,b,m,hd,hl,ho,h0,hm,h1=>by
  refine Evt.succ ?_
  simp only[lT]
  rw[jL]
  exact Evt.ifF (yC hd) (Evt.ret.eq (by omega))
 |t::l,p,v,b,m,hd,hl,ho,h0,hm,h1=>by
  refine Evt.succ ?_
  simp only[lT]
  have hg:=xX ho
  have hu:=zLQ p.k v
  rw[wT]at h1
  refine Evt.ifT (yB hd) (Evt.pure (zX hd) ((zQk p v).bind ?_))
  rw[yI (x:=b+eN p.k v) (by omega) (by omega)]
  refine(zCH t (b+eN p.k v) hg.1 (by omega) (by omega)).bind ?_
  rw[zU v (by have:=yE hd;omega),zFN]
  refine(zEA l p (v+1) b _ (zS hd) hl hg.2 h0 (by omega) (by omega)).eq ?_
  rw[jL];omega
end
mutual
theorem pF:∀(t:Tm) (a b:Int),(qD t a b).length≤t.nodes
 | .mk k n l,a,b=>by
  rw[qD,Tm.nodes]
  have:=zHK l a b
  split<;>simp<;>omega
theorem zHK:∀(l:List Tm) (a b:Int),(zCF l a b).length≤yL l
 | [],a,b=>by rw[zCF,yL];simp
 |t::l,a,b=>by
  rw[zCF,yL]
  have:=pF t a b
  have:=zHK l a b
  simp;omega
end
mutual
theorem eP:∀(t:Tm) (a b:Int),t.Ok->t.nodes≤8192->Evt (fun q=>zHG q t a b) (qD t a b)
 | .mk k n l,a,b,ho,hn=>by
  refine Evt.succ ?_
  simp only[zHG,Tm.k,Tm.n]
  rw[qD]
  rw[Tm.nodes]at hn
  by_cases ha:k=a
  ·refine Evt.ifT (by simpa using ha) (Evt.pure (yG (by simp)) ?_)
   rw[if_pos (.inl ha)]
   exact nH l (.mk k n l) 0 a b [n] rfl ho.1 ho.2 (by simp;omega)
  ·refine Evt.ifF (by simpa using ha) ?_
   by_cases hb:k=b
   ·refine Evt.ifT (by simpa using hb) (Evt.pure (yG (by simp)) ?_)
    rw[if_pos (.inr hb)]
    exact nH l (.mk k n l) 0 a b [n] rfl ho.1 ho.2 (by simp;omega)
   ·refine Evt.ifF (by simpa using hb) ?_
    rw[if_neg (by simp[ha,hb])]
    exact nH l (.mk k n l) 0 a b [] rfl ho.1 ho.2 (by simp;omega)
theorem nH:∀(l:List Tm) (p:Tm) (v:Nat) (a b:Int) (m:List Int),p.sub.drop v=l->p.sub.length<9223372036854775808->OkL l->m.length+yL l≤8192->Evt (fun q=>pE q p a b (v:Int) m) (m++zCF l a b)
 | [],p,v,a,b,m,hd,hl,ho,hn=>by
  refine Evt.succ ?_
  simp only[pE]
  rw[zCF]
  exact Evt.ifF (yC hd) (Evt.ret.eq (by simp))
 |t::l,p,v,a,b,m,hd,hl,ho,hn=>by
  refine Evt.succ ?_
  simp only[pE]
  rw[yL]at hn
  have hc:=pF t a b
  refine Evt.ifT (yB hd) (Evt.pure (zX hd) ((eP t a b ho.1 (by omega)).bind (Evt.pure (yG (by omega)) ?_)))
  rw[zU v (by have:=yE hd;omega)]
  refine(nH l p (v+1) a b _ (zS hd) hl ho.2 (by simp;omega)).eq ?_
  rw[zCF];simp
end
theorem zQ{t:Tm}(h:zM t=true):t.nodes≤8192∧t.high≤128∧yY t=true:=by
 unfold zM at h;simp at h;exact⟨h.1.1,h.1.2,h.2⟩
def iA(t:Tm)(a b:Int):List Int:=if zM t=true then wD (qD t a b)else []
theorem iB(t:Tm)(ho:t.Ok):Evt (fun q=>zFM q t) (iA t 8 8):=by
 simp only[zFM]
 refine(yQ t ho).bind ?_
 unfold iA
 by_cases h:zM t=true
 ·have hs:=zQ h
  have:=pF t 8 8
  rw[if_pos h]
  refine Evt.ifT h ((eP t 8 8 ho hs.1).bind (Evt.mk fun q=>?_))
  rw[if_pos (by simp;omega)]
 ·rw[if_neg h];exact Evt.ifF (by simpa using h) Evt.ret
theorem zKt(t:Tm)(ho:t.Ok):Evt (fun q=>zQm q t) (iA t 6 7):=by
 simp only[zQm]
 refine(yQ t ho).bind ?_
 unfold iA
 by_cases h:zM t=true
 ·have hs:=zQ h
  have:=pF t 6 7
  rw[if_pos h]
  refine Evt.ifT h ((eP t 6 7 ho hs.1).bind (Evt.mk fun q=>?_))
  rw[if_pos (by simp;omega)]
 ·rw[if_neg h];exact Evt.ifF (by simpa using h) Evt.ret
theorem zCI(x:Int):∀l:List Int,x∈qQ l↔x∈l
 | []=>by simp[qQ]
 | [y]=>by simp[qQ]
 |y::z::l=>by
  rw[qC]
  have:=zCI x (z::l)
  split
  ·subst_vars;rw[this];simp
  ·rw[List.mem_cons,this];simp
theorem qU(x:Int)(l:List Int):x∈wD l↔x∈l:=by
 unfold wD
 rw[zCI]
 exact(lL l).mem_iff
theorem zBv:∀l:List Int,l.Pairwise (· ≤ ·)->(qQ l).Pairwise (· ≤ ·)
 | [],_=>by simp[qQ]
 | [y],_=>by simp[qQ]
 |y::z::l,h=>by
  rw[qC]
  have h2:=zBv (z::l) (List.pairwise_cons.1 h).2
  split
  ·exact h2
  ·refine List.pairwise_cons.2 ⟨fun w hw=>?_,h2⟩
   exact(List.pairwise_cons.1 h).1 w ((zCI w _).1 hw)
theorem zHL(l:List Int):(wD l).Pairwise (· ≤ ·):=zBv _ (lM l)
theorem zHM:∀(l:List Int) (h:l≠[]),l.Pairwise (· ≤ ·)->∀x∈l,x≤l.getLast h
 | [y],_,_,x,hx=>by simp at hx;simp[hx]
 |y::z::l,_,hp,x,hx=>by
  rw[List.getLast_cons (by simp)]
  have h2:=List.pairwise_cons.1 hp
  rcases List.mem_cons.1 hx with rfl|hx
  ·exact h2.1 _ (List.getLast_mem _)
  ·exact zHM (z::l) (by simp) h2.2 x hx
def sN(t:Tm)(f n:Int):Bool:=zM t&&decide (oZ t 0≤f)&&(qD t 6 7).all fun x=>decide (x<n)
theorem iC(t:Tm)(f n:Int)(ho:t.Ok):Evt (fun q=>zFL q t f n) (sN t f n):=by
 simp only[zFL]
 refine(yQ t ho).bind ?_
 unfold sN
 by_cases h:zM t=true
 ·have hs:=zQ h
  have hlen:=pF t 6 7
  refine Evt.ifT h ((zCH t 0 hs.2.2 (by omega) (by omega)).bind ?_)
  rw[h]
  by_cases h2:oZ t 0>f
  ·exact Evt.ifT (by simpa using h2) (Evt.ret.eq (by simp;omega))
  ·refine Evt.ifF (by simpa using h2) ((zKt t ho).bind ?_)
   have h2':decide (oZ t 0≤f)=true:=by simp;omega
   rw[h2']
   unfold iA
   rw[if_pos h]
   have hr:=pT (qD t 6 7)
   by_cases h3:wD (qD t 6 7)=[]
   ·refine Evt.ifT (by rw[h3];rfl) (Evt.ret.eq ?_)
    symm
    simp only[Bool.true_and,List.all_eq_true]
    intro x hx
    rw[←qU,h3]at hx;cases hx
   ·have hpos:0<(wD (qD t 6 7)).length:=List.length_pos_iff.2 h3
    refine Evt.ifF (by simp;omega) (Evt.pure (a:=(wD (qD t 6 7)).getLast h3) ?_ (Evt.ret.eq ?_))
    ·rw[yI (by omega) (by omega)]
     unfold zR
     rw[if_pos (by omega),List.getLast_eq_getElem,show ((wD (qD t 6 7)).length-1:Int).toNat=(wD (qD t 6 7)).length-1 by omega]
     exact List.getElem?_eq_getElem _
    ·have hm:=zHM _ h3 (zHL _)
     rw[Bool.eq_iff_iff]
     simp only[decide_eq_true_eq,Bool.true_and,List.all_eq_true]
     constructor
     ·intro h4 x hx
      have:=hm x ((qU x _).2 hx)
      omega
     ·intro h4
      exact h4 _ ((qU _ _).1 (List.getLast_mem h3))
 ·exact Evt.ifF (by simpa using h) (Evt.ret.eq (by simp[h]))
theorem yAA(j:Nat->Value)(ls:List L3)(x:Tm)(u:List AV)(vs:List Value)(o:Own):rS Tryz.prog rA 3000 (.run (inn (inn (lft (rgt (rgt (rgt (bod Tryz.f123)))))))) [] (sp j 35 0 [(1,.mp 0 0),(2,.mp 1 0),(4,.sl (zJ c3 ls) ls.length (.st 0 3)),(5,.mp 2 0)]) ⟨[(0,.cells u),(1,.cells [ai 0,ai 0,.sl [] 0 .nl]),(2,.cells [ai x.k,ai x.n,.sl (vs.map .val) x.sub.length o])],3,[0],1,[]⟩ [.no,.bit false]=some (.fin (.exit 0),(sp j 35 0 [(1,.mp 0 0),(2,.mp 1 0),(4,.sl (zJ c3 ls) ls.length (.st 0 3)),(5,.mp 2 0),(7,.mp 2 0),(8,ai x.k),(9,ab false),(10,ab false),(11,.val undef),(12,.val undef),(13,.val undef),(14,.val undef),(15,ab false)]),⟨[(0,.cells u),(1,.cells [ai 0,ai 0,.sl [] 0 .nl]),(2,.cells [ai x.k,ai x.n,.sl (vs.map .val) x.sub.length o])],3,[0],1,[]⟩,[],[.bit (x.k==5) false]):=by kernel_rfl
theorem yAB(j:Nat->Value)(ls:List L3)(x:Tm)(u:List AV)(vs:List Value)(o:Own):(fB Tryz.prog rA (xO (lft (rgt (rgt (rgt (rgt (bod Tryz.f123))))))) ((xO (lft (rgt (rgt (rgt (rgt (bod Tryz.f123))))))).toList.take 1) 0 (sp j 35 0 [(1,.mp 0 0),(2,.mp 1 0),(4,.sl (zJ c3 ls) ls.length (.st 0 3)),(5,.mp 2 0),(7,.mp 2 0),(8,ai x.k),(9,ab false),(10,ab false),(11,.val undef),(12,.val undef),(13,.val undef),(14,.val undef),(15,ab false)]) ⟨[(0,.cells u),(1,.cells [ai 0,ai 0,.sl [] 0 .nl]),(2,.cells [ai x.k,ai x.n,.sl (vs.map .val) x.sub.length o])],3,[0],1,[]⟩ []).map Prod.snd=some ((sp j 35 0 [(1,.mp 0 0),(2,.mp 1 0),(4,.sl (zJ c3 ls) ls.length (.st 0 3)),(5,.mp 2 0),(7,.mp 2 0),(8,ai x.k),(9,ab false),(10,ab false),(11,.val undef),(12,.val undef),(13,.val undef),(14,.val undef),(15,ab false),(31,.sl (zJ c3 ls) ls.length (.st 0 3))]),⟨[(0,.cells u),(1,.cells [ai 0,ai 0,.sl [] 0 .nl]),(2,.cells [ai x.k,ai x.n,.sl (vs.map .val) x.sub.length o])],3,[0],1,[]⟩,[],[]):=by kernel_rfl
theorem yAC(j i:Nat->Value)(ls:List L3)(l:List Tm)(x:Tm)(u:List AV)(vs:List Value)(o:Own):(fB Tryz.prog rA (xO (lft (rgt (rgt (rgt (rgt (bod Tryz.f123))))))) ((xO (lft (rgt (rgt (rgt (rgt (bod Tryz.f123))))))).toList.drop 2) 2 (eset (tells [(4,.sl (zJ zH l.reverse) l.length .no)] (mutEnv [1,2] i (sp j 35 0 [(1,.mp 0 0),(2,.mp 1 0),(4,.sl (zJ c3 ls) ls.length (.st 0 3)),(5,.mp 2 0),(7,.mp 2 0),(8,ai x.k),(9,ab false),(10,ab false),(11,.val undef),(12,.val undef),(13,.val undef),(14,.val undef),(15,ab false),(31,.sl (zJ c3 ls) ls.length (.st 0 3))]) 0)) (some 32) (.tup [])) (qX [1,2] ⟨[(0,.cells u),(1,.cells [ai 0,ai 0,.sl [] 0 .nl]),(2,.cells [ai x.k,ai x.n,.sl (vs.map .val) x.sub.length o])],3,[0],1,[]⟩) []).map Prod.snd=some ((sp j 35 0 [(1,.val (i 1)),(2,.mp 1 0),(4,.sl (zJ zH l.reverse) l.length .no),(5,.mp 2 0),(7,.mp 2 0),(8,ai x.k),(9,ab false),(10,ab false),(11,.val undef),(12,.val undef),(13,.val undef),(14,.val undef),(15,ab false),(31,.val (i 31)),(32,.tup [])]),⟨[(1,.cells [ai 0,ai 0,.sl [] 0 .nl]),(2,.cells [ai x.k,ai x.n,.sl (vs.map .val) x.sub.length o])],3,[],0,[]⟩,[],[]):=by kernel_rfl
theorem yAD(j i:Nat->Value)(l:List Tm)(x:Tm)(vs:List Value)(o:Own):eH Tryz.prog rA 0 Tryz.f123 3000 (.run (rgt (rgt (rgt (rgt (rgt (bod Tryz.f123))))))) [] (sp j 35 0 [(1,.val (i 1)),(2,.mp 1 0),(4,.sl (zJ zH l.reverse) l.length .no),(5,.mp 2 0),(7,.mp 2 0),(8,ai x.k),(9,ab false),(10,ab false),(11,.val undef),(12,.val undef),(13,.val undef),(14,.val undef),(15,ab false),(31,.val (i 31)),(32,.tup [])]) ⟨[(1,.cells [ai 0,ai 0,.sl [] 0 .nl]),(2,.cells [ai x.k,ai x.n,.sl (vs.map .val) x.sub.length o])],3,[],0,[]⟩ [.no,.no] [] [] [] false=some (.tup [.agg [ai x.k,ai x.n,.sl (vs.map .val) x.sub.length .no],.sl (zJ zH l.reverse) l.length .no],[],[.data (vs.map .val),.data (zJ zH l.reverse)]):=by kernel_rfl
theorem yAE(j:Nat->Value)(ls:List L3)(x:Tm)(u:List AV)(vs:List Value)(o:Own):rS Tryz.prog rA 3000 (.run (inn (inn (lft (rgt (rgt (rgt (bod Tryz.f123)))))))) [] (sp j 35 0 [(1,.mp 0 0),(2,.mp 1 0),(4,.sl (zJ c3 ls) ls.length (.st 0 3)),(5,.mp 2 0)]) ⟨[(0,.cells u),(1,.cells [ai 0,ai 0,.sl [] 0 .nl]),(2,.cells [ai x.k,ai x.n,.sl (vs.map .val) x.sub.length o])],3,[0],1,[]⟩ [.no,.bit true,.no,.no,.bit false]=some (.fin (.exit 0),(sp j 35 0 [(1,.mp 0 0),(2,.mp 1 0),(4,.sl (zJ c3 ls) ls.length (.st 0 3)),(5,.mp 2 0),(7,.mp 2 0),(8,ai x.k),(9,ab true),(10,ab true),(11,.mp 2 2),(12,.sl (vs.map .val) x.sub.length o),(13,ai (x.sub.length:Int)),(14,ab false),(15,ab false)]),⟨[(0,.cells u),(1,.cells [ai 0,ai 0,.sl [] 0 .nl]),(2,.cells [ai x.k,ai x.n,.sl (vs.map .val) x.sub.length o])],3,[0],1,[]⟩,[],[.bit (x.k==5) true,.bit ((x.sub.length:Int)==2) false]):=by kernel_rfl
theorem yAF(j:Nat->Value)(ls:List L3)(x:Tm)(u:List AV)(vs:List Value)(o:Own):(fB Tryz.prog rA (xO (lft (rgt (rgt (rgt (rgt (bod Tryz.f123))))))) ((xO (lft (rgt (rgt (rgt (rgt (bod Tryz.f123))))))).toList.take 1) 0 (sp j 35 0 [(1,.mp 0 0),(2,.mp 1 0),(4,.sl (zJ c3 ls) ls.length (.st 0 3)),(5,.mp 2 0),(7,.mp 2 0),(8,ai x.k),(9,ab true),(10,ab true),(11,.mp 2 2),(12,.sl (vs.map .val) x.sub.length o),(13,ai (x.sub.length:Int)),(14,ab false),(15,ab false)]) ⟨[(0,.cells u),(1,.cells [ai 0,ai 0,.sl [] 0 .nl]),(2,.cells [ai x.k,ai x.n,.sl (vs.map .val) x.sub.length o])],3,[0],1,[]⟩ []).map Prod.snd=some ((sp j 35 0 [(1,.mp 0 0),(2,.mp 1 0),(4,.sl (zJ c3 ls) ls.length (.st 0 3)),(5,.mp 2 0),(7,.mp 2 0),(8,ai x.k),(9,ab true),(10,ab true),(11,.mp 2 2),(12,.sl (vs.map .val) x.sub.length o),(13,ai (x.sub.length:Int)),(14,ab false),(15,ab false),(31,.sl (zJ c3 ls) ls.length (.st 0 3))]),⟨[(0,.cells u),(1,.cells [ai 0,ai 0,.sl [] 0 .nl]),(2,.cells [ai x.k,ai x.n,.sl (vs.map .val) x.sub.length o])],3,[0],1,[]⟩,[],[]):=by kernel_rfl
theorem yAG(j i:Nat->Value)(ls:List L3)(l:List Tm)(x:Tm)(u:List AV)(vs:List Value)(o:Own):(fB Tryz.prog rA (xO (lft (rgt (rgt (rgt (rgt (bod Tryz.f123))))))) ((xO (lft (rgt (rgt (rgt (rgt (bod Tryz.f123))))))).toList.drop 2) 2 (eset (tells [(4,.sl (zJ zH l.reverse) l.length .no)] (mutEnv [1,2] i (sp j 35 0 [(1,.mp 0 0),(2,.mp 1 0),(4,.sl (zJ c3 ls) ls.length (.st 0 3)),(5,.mp 2 0),(7,.mp 2 0),(8,ai x.k),(9,ab true),(10,ab true),(11,.mp 2 2),(12,.sl (vs.map .val) x.sub.length o),(13,ai (x.sub.length:Int)),(14,ab false),(15,ab false),(31,.sl (zJ c3 ls) ls.length (.st 0 3))]) 0)) (some 32) (.tup [])) (qX [1,2] ⟨[(0,.cells u),(1,.cells [ai 0,ai 0,.sl [] 0 .nl]),(2,.cells [ai x.k,ai x.n,.sl (vs.map .val) x.sub.length o])],3,[0],1,[]⟩) []).map Prod.snd=some ((sp j 35 0 [(1,.val (i 1)),(2,.mp 1 0),(4,.sl (zJ zH l.reverse) l.length .no),(5,.mp 2 0),(7,.mp 2 0),(8,ai x.k),(9,ab true),(10,ab true),(11,.mp 2 2),(12,.val (i 12)),(13,ai (x.sub.length:Int)),(14,ab false),(15,ab false),(31,.val (i 31)),(32,.tup [])]),⟨[(1,.cells [ai 0,ai 0,.sl [] 0 .nl]),(2,.cells [ai x.k,ai x.n,.sl (vs.map .val) x.sub.length o])],3,[],0,[]⟩,[],[]):=by kernel_rfl
theorem yAH(j i:Nat->Value)(l:List Tm)(x:Tm)(vs:List Value)(o:Own):eH Tryz.prog rA 0 Tryz.f123 3000 (.run (rgt (rgt (rgt (rgt (rgt (bod Tryz.f123))))))) [] (sp j 35 0 [(1,.val (i 1)),(2,.mp 1 0),(4,.sl (zJ zH l.reverse) l.length .no),(5,.mp 2 0),(7,.mp 2 0),(8,ai x.k),(9,ab true),(10,ab true),(11,.mp 2 2),(12,.val (i 12)),(13,ai (x.sub.length:Int)),(14,ab false),(15,ab false),(31,.val (i 31)),(32,.tup [])]) ⟨[(1,.cells [ai 0,ai 0,.sl [] 0 .nl]),(2,.cells [ai x.k,ai x.n,.sl (vs.map .val) x.sub.length o])],3,[],0,[]⟩ [.no,.no] [] [] [] false=some (.tup [.agg [ai x.k,ai x.n,.sl (vs.map .val) x.sub.length .no],.sl (zJ zH l.reverse) l.length .no],[],[.data (vs.map .val),.data (zJ zH l.reverse)]):=by kernel_rfl
theorem spC(j:Nat->Value)(p0:Tm)(q0:Option Addr×Nat×Nat)(ls:List L3)(x:Tm)(vs:List Value)(o:Own):eH Tryz.prog rA 0 Tryz.f123 3000 (.run (inn (inn (lft (rgt (rgt (rgt (bod Tryz.f123)))))))) [.loop (inn (inn (lft (rgt (rgt (rgt (bod Tryz.f123))))))),.blk 0,.seq (rgt (rgt (rgt (rgt (bod Tryz.f123)))))] (sp j 35 0 [(1,.mp 0 0),(2,.mp 1 0),(4,.sl (zJ c3 ls) ls.length (.st 0 3)),(5,.mp 2 0)]) ⟨[(0,.cells [.val (.int .i64 p0.k),.val (.int .i64 p0.n),.val (.slice q0.1 q0.2.1 q0.2.2)]),(1,.cells [ai 0,ai 0,.sl [] 0 .nl]),(2,.cells [ai x.k,ai x.n,.sl (vs.map .val) x.sub.length o])],3,[0],1,[]⟩ [.no,.bit true,.no,.no,.bit true,.no,.bit true,.no,.no] [] [] [] false=some (.tup [.agg [.val (.int .i64 p0.k),.val (.int .i64 p0.n),.val (.slice q0.1 q0.2.1 q0.2.2)],.sl [] 0 .no],[],[.bit (x.k==5) true,.bit ((x.sub.length:Int)==2) true,.bit (decide ((ls.length:Int)≥8192)) true,.data []]):=by kernel_rfl
theorem spD(i j:Nat->Value)(k n:Int)(a b:Tm)(qa qb:Option Addr×Nat×Nat)(u0 u1 u2:Value)(ls ls2:List L3)(o:Own):jW Tryz.prog rA 0 3000 (.run (inn (inn (lft (rgt (rgt (rgt (bod Tryz.f123)))))))) [.loop (inn (inn (lft (rgt (rgt (rgt (bod Tryz.f123))))))),.blk 0,.seq (rgt (rgt (rgt (rgt (bod Tryz.f123)))))] (sp j 35 0 [(1,.mp 0 0),(2,.mp 1 0),(4,.sl (zJ c3 ls) ls.length (.st 0 3)),(5,.mp 2 0)]) ⟨[(0,.cells [.val u0,.val u1,.val u2]),(1,.cells [ai 0,ai 0,.sl [] 0 .nl]),(2,.cells [ai k,ai n,.sl [.val (.int .i64 a.k),.val (.int .i64 a.n),.val (.slice qa.1 qa.2.1 qa.2.2),.val (.int .i64 b.k),.val (.int .i64 b.n),.val (.slice qb.1 qb.2.1 qb.2.2)] 2 o])],3,[0],1,[]⟩ [.no,.bit true,.no,.no,.bit true,.no,.bit false,.no,.no,.no,.no,.app (zJ c3 ls2) ls2.length 3 false,.no,.no,.no,.no] [] [0,1,2] [1] [1,2,4,5] i=some (inn (inn (lft (rgt (rgt (rgt (bod Tryz.f123)))))),[.blk 0,.seq (rgt (rgt (rgt (rgt (bod Tryz.f123)))))],(sp i 35 0 [(1,.mp 0 0),(2,.mp 1 0),(4,.sl (zJ c3 ls2) ls2.length (.st 0 3)),(5,.mp 2 0)]),⟨[(0,.cells [.val u0,.val u1,.val u2]),(1,.cells [ai 0,ai 0,.sl [] 0 .nl]),(2,.cells [.val (.int .i64 a.k),.val (.int .i64 a.n),.val (.slice qa.1 qa.2.1 qa.2.2)])],3,[0],1,[]⟩,[.bit (k==5) true,.bit ((2:Int)==2) true,.bit (decide ((ls.length:Int)≥8192)) false,.app 24 24 (zJ c3 ls) [.val (.int .i64 b.k),.val (.int .i64 b.n),.val (.slice qb.1 qb.2.1 qb.2.2)] (zJ c3 ls2) ls.length 1 ls2.length 3 false,.data [],.data (zJ c3 ls2)]):=by kernel_rfl
theorem spE(i:Nat->Value)(u0 u1:Int)(u2:Option Addr×Nat×Nat):jW Tryz.prog rA 0 3000 (.run (bod Tryz.f123)) [] ([.agg [.val (.int .i64 u0),.val (.int .i64 u1),.val (.slice u2.1 u2.2.1 u2.2.2)]]++List.replicate (Tryz.f123.ntmps-1) (.val undef)) (st0 []) [.no,.no] [(none,4,3)] [0,1,2] [0] [1,2,4,5] i=some (inn (inn (lft (rgt (rgt (rgt (bod Tryz.f123)))))),[.blk 0,.seq (rgt (rgt (rgt (rgt (bod Tryz.f123)))))],(sp i 35 0 [(1,.mp 0 0),(2,.mp 1 0),(4,.sl [] 0 (.st 0 3)),(5,.mp 2 0)]),⟨[(0,.cells [.val (.int .i64 u0),.val (.int .i64 u1),.val (.slice u2.1 u2.2.1 u2.2.2)]),(1,.cells [ai 0,ai 0,.sl [] 0 .nl]),(2,.cells [.val (.int .i64 u0),.val (.int .i64 u1),.val (.slice u2.1 u2.2.1 u2.2.2)])],3,[0],1,[]⟩,[.data [],.data []]):=by kernel_rfl
def sv(x:Tm)(q:Option Addr×Nat×Nat):List Value:=[.int .i64 x.k,.int .i64 x.n,.slice q.1 q.2.1 q.2.2]
def sv3(x:Tm)(q:Option Addr×Nat×Nat):L3:=⟨.int .i64 x.k,.int .i64 x.n,.slice q.1 q.2.1 q.2.2,rfl,rfl,rfl⟩
theorem VL.split{G:Gh}{w:World}:∀(cs bs:List AV) (us:List Value),VL G w (cs++bs) us->∃u1 u2,us=u1++u2∧VL G w cs u1∧VL G w bs u2
 | [],bs,us,h=>⟨[],us,rfl,by simp only[VL],h⟩
 |a::cs,bs,[],h=>by simp only[List.cons_append,VL]at h
 |a::cs,bs,u::us,h=>by
  simp only[List.cons_append,VL]at h
  obtain⟨u1,u2,rfl,h1,h2⟩:=VL.split cs bs us h.2
  exact⟨u::u1,u2,rfl,by simp only[VL];exact⟨h.1,h1⟩,h2⟩
theorem zQj{G:Gh}{w:World}{x:Tm}{us:List Value}(h:VL G w (tmL x) us):∃q,us=sv x q:=by
 unfold tmL at h
 match us,h with
 | [],h=>simp only[VL]at h
 | [_],h=>simp only[VL,and_false]at h
 | [_,_],h=>simp only[VL,and_false]at h
 | [u0,u1,u2],h=>
  simp only[VL,and_true]at h
  obtain⟨h0,h1,h2⟩:=h
  simp only[V]at h0 h1 h2
  obtain⟨cap,_,⟨_,_,_,h,_⟩|⟨b,off,h,_⟩⟩:=h2
  ·obtain⟨p,h⟩:∃p,u2 = .slice p 0 0:=⟨_,h⟩
   exact⟨(p,0,0),by simp[sv,h0,h1,h]⟩
  ·exact⟨(some ⟨b,off,none⟩,x.sub.length,cap),by simp[sv,h0,h1,h]⟩
 |_::_::_::_::_,h=>simp only[VL,and_false]at h
theorem VC.lit{G G':Gh}{w w':World}(b:Nat)(hL:∀o,G.L b o->G'.L b o)(hc:∀o,w'.cell? ⟨b,o,none⟩=w.cell? ⟨b,o,none⟩):∀(vs:List Value) (off:Nat),VC G w (vs.map .val) b off->VC G' w' (vs.map .val) b off
 | [],_,_=>by simp only[List.map_nil,VC]
 |v::vs,off,h=>by
  simp only[List.map_cons,VC]at h ⊢
  obtain⟨h1,⟨u,h2,h3⟩,h4⟩:=h
  exact⟨hL _ h1,⟨u,(hc _).trans h2,by simpa only[V]using h3⟩,VC.lit b hL hc vs (off+1) h4⟩
theorem zYZ{G:Gh}{w:World}{vs:List Value}{n:Nat}{o:Own}{u:Value}{es:List AV}(h:V G w (.sl (vs.map .val) n o) u)(he:VL G w es vs):V G w (.sl es n .no) u:=by
 simp only[V]at h ⊢
 obtain⟨cap,hc,⟨h1,h2,h3,h4,_⟩|⟨b,off,h1,h2,_⟩⟩:=h
 ·have hv:vs=[]:=by simpa using h1
  subst hv
  have:=VL.length _ _ he
  exact⟨cap,hc,.inl ⟨List.length_eq_zero_iff.1 this.symm,h2,h3,h4,trivial⟩⟩
 ·refine⟨cap,hc,.inr ⟨b,off,h1,?_,trivial⟩⟩
  obtain⟨us,q1,q2⟩:=VC.cells _ _ _ h2
  have:=VL.litEq _ _ q1
  subst this
  exact VC.of_cells es us b off he (fun i hi=>(VC.cell _ _ _ i (.val us[i]) h2 (by simp[hi])).1) q2
theorem zTU{na:Nb}{G0:Gh}{w:World}(hB:lD na G0){x:Tm}{q:Option Addr×Nat×Nat}(h:VL G0 w (tmL x) (sv x q)) :
  ∃(vs:List Value) (o:Own),VL G0 w (zJ zH x.sub) vs∧VL G0 w [ai x.k,ai x.n,.sl (vs.map .val) x.sub.length o] (sv x q)∧Blk.lit (.cells [ai x.k,ai x.n,.sl (vs.map .val) x.sub.length o]):=by
 unfold tmL sv at h
 simp only[VL,and_true]at h
 obtain⟨_,_,h2⟩:=h
 have key:∃(vs:List Value) (o:Own),VL G0 w (zJ zH x.sub) vs∧V G0 w (.sl (vs.map .val) x.sub.length o) (.slice q.1 q.2.1 q.2.2) ∧
   ∀(G G':Gh) (w w':World) (u:Value),G'.F=G.F->(∀b o,G.F b->G.L b o->G'.L b o)->(∀b o,G.F b->w'.cell? ⟨b,o,none⟩=w.cell? ⟨b,o,none⟩)->V G w (.sl (vs.map .val) x.sub.length o) u->V G' w' (.sl (vs.map .val) x.sub.length o) u:=by
  simp only[V]at h2
  obtain⟨cap,hc,⟨h1,h2,h3,h4,_⟩|⟨b,off,h1,h2,_⟩⟩:=h2
  ·refine⟨[],.no,by rw[h1];simp only[VL],?_,?_⟩
   ·simp only[V];exact⟨cap,hc,.inl ⟨rfl,h2,h3,h4,trivial⟩⟩
   ·intro G G' w w' u _ _ _ hu
    rw[h2]at hu ⊢
    exact V.none hu
  ·obtain⟨vs,q1,q2⟩:=VC.cells _ _ _ h2
   have hL:∀i,i<vs.length->G0.L b (off+i):=by
    intro i hi
    have hl:=VL.length _ _ q1
    exact(VC.cell _ _ _ i ((zJ zH x.sub)[i]'(by omega)) h2 (by rw[List.getElem?_eq_getElem])).1
   have hcl:VC G0 w (vs.map .val) b off:=VC.of_cells _ vs b off (VL.lits vs) hL q2
   by_cases hs:vs=[]
   ·subst hs
    have hl:=VL.length _ _ q1
    have hfl:=wM qA.len x.sub
    have h0:x.sub.length=0:=by simp at hl;omega
    refine⟨[],.no,q1,?_,?_⟩
    ·simp only[V];exact⟨cap,hc,.inr ⟨b,off,h1,hcl,trivial⟩⟩
    ·intro G G' w w' u _ _ _ hu
     rw[h0]at hu ⊢
     exact V.none hu
   ·have hF:G0.F b:=hB.LF b (off+0) (hL 0 (List.length_pos_iff.2 hs))
    refine⟨vs,.fr,q1,?_,?_⟩
    ·simp only[V];exact⟨cap,hc,.inr ⟨b,off,h1,hcl,hF⟩⟩
    ·intro G G' w w' u e1 e2 e3 hu
     simp only[V]at hu ⊢
     obtain⟨cap',hc',⟨p1,p2,p3,p4,_⟩|⟨b',off',p1,p2,p3⟩⟩:=hu
     ·exact⟨cap',hc',.inl ⟨p1,p2,p3,p4,trivial⟩⟩
     ·have p3':G.F b':=p3
      exact⟨cap',hc',.inr ⟨b',off',p1,VC.lit b' (fun o h=>e2 b' o p3' h) (fun o=>e3 b' o p3') vs off' p2,by show G'.F b';rw[e1];exact p3'⟩⟩
 obtain⟨vs,o,k1,k2,k3⟩:=key
 refine⟨vs,o,k1,?_,?_⟩
 ·simp only[sv,VL,V];simp only[V]at k2;exact⟨trivial,trivial,k2,trivial⟩
 ·intro G G' w w' us e1 e2 e3 hu
  match us,hu with
  | [],hu=>simp only[VL]at hu
  | [_],hu=>simp only[VL,and_false]at hu
  | [_,_],hu=>simp only[VL,and_false]at hu
  | [u0,u1,u2],hu=>
   simp only[VL,and_true]at hu ⊢
   exact⟨by simpa only[V]using hu.1,by simpa only[V]using hu.2.1,k3 G G' w w' u2 e1 e2 e3 hu.2.2⟩
  |_::_::_::_::_,hu=>simp only[VL,and_false]at hu
theorem zZz:Blk.lit (.cells [ai 0,ai 0,.sl [] 0 .nl]):=by
 intro G G' w w' us e1 e2 e3 hu
 match us,hu with
 | [],hu=>simp only[VL]at hu
 | [_],hu=>simp only[VL,and_false]at hu
 | [_,_],hu=>simp only[VL,and_false]at hu
 | [u0,u1,u2],hu=>
  simp only[VL,and_true]at hu ⊢
  refine⟨by simpa only[V]using hu.1,by simpa only[V]using hu.2.1,?_⟩
  have:=hu.2.2
  simp only[V]at this ⊢
  obtain⟨cap,h1,⟨_,_,h2,h3,h4⟩|⟨b,off,h2,_,h3⟩⟩:=this
  ·exact⟨cap,h1,.inl ⟨trivial,trivial,h2,h3,h4⟩⟩
  ·exact h3.elim
 |_::_::_::_::_,hu=>simp only[VL,and_false]at hu
def zWV(G0:Gh)(res:AV)(r:Tm×List Tm):Prop:=∀W G' W',Ext G0 W G' W'->vH G'.F G'.w0 W'->∀u,V G' W' res u->V G' W' (.tup [tmA r.1,.sl (zJ zH r.2) r.2.length .no]) u
def qE(p0:Tm):Tm->List Tm->Option (Tm×List Tm)
 | .mk k n [a,b],l=>
  if (k==5)=true then
   if decide ((l.length:Int)≥8192)=true then some (p0,[])else(yT 40 l [b])>>=fun l2=>qE p0 a l2
  else some (.mk k n [a,b],l.reverse)
 |x,l=>some (x,l.reverse)
def zZy(p0:Tm):Option (Tm×List Tm):=qE p0 p0 []
theorem zQi:∀vs:List Value,AV.DataL (vs.map .val)
 | []=>trivial
 |_::vs=>⟨trivial,zQi vs⟩
theorem VL.rev{G:Gh}{w:World}:∀(l:List Tm) (ls:List L3),VL G w (zJ zH l) (sJ ls)->ls.length=l.length->VL G w (zJ zH l.reverse) (sJ ls.reverse)
 | [],[],_,_=>by simp[zJ,sJ,VL]
 |x::l,y::ls,h,hl=>by
  simp only[zJ,sJ,List.flatMap_cons]at h
  obtain⟨u1,u2,e,h1,h2⟩:=VL.split _ _ _ h
  have n1:=VL.length _ _ h1
  rw[qA.len]at n1
  obtain⟨rfl,rfl⟩:=List.append_inj e (by rw[n1];rfl)
  have ih:=VL.rev l ls h2 (by simpa using hl)
  simp only[List.reverse_cons,zJ,sJ,List.flatMap_append,List.flatMap_cons,List.flatMap_nil,List.append_nil]
  exact VL.append _ _ _ _ ih h1
 | [],_::_,_,h=>by simp at h
 |_::_,[],_,h=>by simp at h
theorem zEB{na:Nb}{G0:Gh}(hB:lD na G0){x:Tm}{l:List Tm}{vs:List Value}(v1:VL G0 G0.w0 (zJ zH x.sub) vs)(hn:na.n=0:=by first|rfl|assumption):zWV G0 (.tup [.agg [ai x.k,ai x.n,.sl (vs.map .val) x.sub.length .no],.sl (zJ zH l.reverse) l.length .no]) (x,l.reverse):=by
 intro W G' W' hE hK u hu
 have v:=VL.later hB hE hK v1
 simp only[V,VL]at hu
 obtain⟨us,rfl,hus⟩:=hu
 match us,hus with
 | [],h=>simp only[VL]at h
 | [_],h=>simp only[VL,and_false]at h
 | [ua,ub],h=>
  simp only[VL,and_true]at h
  obtain⟨h1,h2⟩:=h
  simp only[V]at h1
  obtain⟨ws,rfl,hws⟩:=h1
  match ws,hws with
  | [],h=>simp only[VL]at h
  | [_],h=>simp only[VL,and_false]at h
  | [_,_],h=>simp only[VL,and_false]at h
  | [w0,w1,w2],h=>
   simp only[VL,and_true]at h
   obtain⟨g0,g1,g2⟩:=h
   have g3:=zYZ g2 v
   simp only[V]
   refine⟨[.agg #[w0,w1,w2],ub],rfl,?_⟩
   simp only[VL,and_true]
   refine⟨?_,by simpa using h2⟩
   simp only[tmA,V]
   exact⟨[w0,w1,w2],rfl,by simp only[tmL,VL,and_true];exact⟨g0,g1,g3⟩⟩
  |_::_::_::_::_,h=>simp only[VL,and_false]at h
 |_::_::_::_,h=>simp only[VL,and_false]at h
theorem zNM{na:Nb}{G0:Gh}(hB:lD na G0){x:Tm}{q:Option Addr×Nat×Nat}(h0:VL G0 G0.w0 (tmL x) (sv x q))(hn:na.n=0:=by first|rfl|assumption):zWV G0 (.tup [.agg [.val (.int .i64 x.k),.val (.int .i64 x.n),.val (.slice q.1 q.2.1 q.2.2)],.sl [] 0 .no]) (x,[]):=by
 intro W G' W' hE hK u hu
 have v:=VL.later hB hE hK h0
 simp only[V,VL]at hu
 obtain⟨us,rfl,hus⟩:=hu
 match us,hus with
 | [],h=>simp only[VL]at h
 | [_],h=>simp only[VL,and_false]at h
 | [ua,ub],h=>
  simp only[VL,and_true]at h
  obtain⟨h1,h2⟩:=h
  simp only[V]at h1
  obtain⟨ws,rfl,hws⟩:=h1
  have hw:ws=sv x q:=VL.litEq (sv x q) ws hws
  subst hw
  simp only[V]
  refine⟨[.agg (sv x q).toArray,ub],rfl,?_⟩
  simp only[VL,and_true]
  refine⟨?_,by simpa[zJ]using h2⟩
  simp only[tmA,V]
  exact⟨sv x q,rfl,v⟩
 |_::_::_::_,h=>simp only[VL,and_false]at h
theorem yAI{G0:Gh}{p0 x:Tm}{q0:Option Addr×Nat×Nat}{l:List Tm}{ls:List L3}{vs:List Value}{o:Own}(j:Nat->Value)(hlit:Blk.lit (.cells [ai x.k,ai x.n,.sl (vs.map .val) x.sub.length o]))(hl:VL G0 G0.w0 (zJ zH l) (sJ ls))(hlen:ls.length=l.length)(h8:l.length≤8192) :
  Dv Tryz.prog (⟨0,fun G=>G=G0⟩:Nb) (rgt (rgt (rgt (rgt (bod Tryz.f123))))) (sp j 35 0 [(1,.mp 0 0),(2,.mp 1 0),(4,.sl (zJ c3 ls) ls.length (.st 0 3)),(5,.mp 2 0),(7,.mp 2 0),(8,ai x.k),(9,ab false),(10,ab false),(11,.val undef),(12,.val undef),(13,.val undef),(14,.val undef),(15,ab false)]) ⟨[(0,.cells [.val (.int .i64 p0.k),.val (.int .i64 p0.n),.val (.slice q0.1 q0.2.1 q0.2.2)]),(1,.cells [ai 0,ai 0,.sl [] 0 .nl]),(2,.cells [ai x.k,ai x.n,.sl (vs.map .val) x.sub.length o])],3,[0],1,[]⟩ (nQ (⟨0,fun G=>G=G0⟩:Nb) Tryz.f123 (.tup [.agg [ai x.k,ai x.n,.sl (vs.map .val) x.sub.length .no],.sl (zJ zH l.reverse) l.length .no]) [] 0):=by
 have k1:knd (rgt (rgt (rgt (rgt (bod Tryz.f123)))))=1:=by kernel_rfl
 have k3:cP (lft (rgt (rgt (rgt (rgt (bod Tryz.f123))))))=true:=by kernel_rfl
 have k4:zFC (xO (lft (rgt (rgt (rgt (rgt (bod Tryz.f123)))))))[1]? = some (some 32,161,#[.tmp 31]):=by kernel_rfl
 have k5:(Tryz.f161.name == "runtime.NumGoroutine")=false:=by kernel_rfl
 have k6:Tryz.f161.body.isNone=false:=by kernel_rfl
 refine Dv.seqP k1 ?_
 obtain⟨id,k7⟩:=zTb k3
 rw[k7]
 refine Dv.mut xL (na:=(⟨0,fun G=>G=G0⟩:Nb)) rfl 1 [1,2] [(4,.sl (zJ zH l.reverse) l.length .no)] (.tup []) (yAB j ls x _ vs o) zZ.nil k4 Tryz.func161 k5 k6 ?_ ?_ (fun i=>yAC j i ls l x _ vs o) zZ.nil ?_
 ·intro i X hm hX
  have:i=1∨i=2:=by simpa using wU.1 hm
  rcases this with rfl|rfl
  ·cases hX;exact zZz
  ·cases hX;exact hlit
 ·intro G1 W hB' G w hE hR u hu
  have e:=hB'.κ
  subst e
  refine(zHr (l:=ls) hR (by rfl) (by omega) hu).mono ?_
  rintro e w' ⟨v,b,S,e1,e2,e3,e4,e5,e6,e7⟩
  refine⟨v,b,S,e1,e2,e3,e4,e5,fun G' hE' hK' hS=>⟨by subst e6;simp only[V];exact⟨[],rfl,by simp only[VL]⟩,?_⟩⟩
  intro p hp u' hu'
  have hp':=List.mem_singleton.1 hp
  subst hp'
  have:=e7 G' hS _ (VL.later hB' hE' hK' (VL.rev l ls hl hlen)) u' hu'
  rw[hlen]at this
  exact this
 ·intro i
  exact gH (na:=(⟨0,fun G=>G=G0⟩:Nb)) xL mixed (yAD j i l x vs o) (zZ.cons (rB (zQi vs)) (zZ.cons (rB (dT _)) zZ.nil)) (by decide)
theorem yAJ{G0:Gh}{p0 x:Tm}{q0:Option Addr×Nat×Nat}{l:List Tm}{ls:List L3}{vs:List Value}{o:Own}(j:Nat->Value)(hlit:Blk.lit (.cells [ai x.k,ai x.n,.sl (vs.map .val) x.sub.length o]))(hl:VL G0 G0.w0 (zJ zH l) (sJ ls))(hlen:ls.length=l.length)(h8:l.length≤8192) :
  Dv Tryz.prog (⟨0,fun G=>G=G0⟩:Nb) (rgt (rgt (rgt (rgt (bod Tryz.f123))))) (sp j 35 0 [(1,.mp 0 0),(2,.mp 1 0),(4,.sl (zJ c3 ls) ls.length (.st 0 3)),(5,.mp 2 0),(7,.mp 2 0),(8,ai x.k),(9,ab true),(10,ab true),(11,.mp 2 2),(12,.sl (vs.map .val) x.sub.length o),(13,ai (x.sub.length:Int)),(14,ab false),(15,ab false)]) ⟨[(0,.cells [.val (.int .i64 p0.k),.val (.int .i64 p0.n),.val (.slice q0.1 q0.2.1 q0.2.2)]),(1,.cells [ai 0,ai 0,.sl [] 0 .nl]),(2,.cells [ai x.k,ai x.n,.sl (vs.map .val) x.sub.length o])],3,[0],1,[]⟩ (nQ (⟨0,fun G=>G=G0⟩:Nb) Tryz.f123 (.tup [.agg [ai x.k,ai x.n,.sl (vs.map .val) x.sub.length .no],.sl (zJ zH l.reverse) l.length .no]) [] 0):=by
 have k1:knd (rgt (rgt (rgt (rgt (bod Tryz.f123)))))=1:=by kernel_rfl
 have k3:cP (lft (rgt (rgt (rgt (rgt (bod Tryz.f123))))))=true:=by kernel_rfl
 have k4:zFC (xO (lft (rgt (rgt (rgt (rgt (bod Tryz.f123)))))))[1]? = some (some 32,161,#[.tmp 31]):=by kernel_rfl
 have k5:(Tryz.f161.name == "runtime.NumGoroutine")=false:=by kernel_rfl
 have k6:Tryz.f161.body.isNone=false:=by kernel_rfl
 refine Dv.seqP k1 ?_
 obtain⟨id,k7⟩:=zTb k3
 rw[k7]
 refine Dv.mut xL (na:=(⟨0,fun G=>G=G0⟩:Nb)) rfl 1 [1,2] [(4,.sl (zJ zH l.reverse) l.length .no)] (.tup []) (yAF j ls x _ vs o) zZ.nil k4 Tryz.func161 k5 k6 ?_ ?_ (fun i=>yAG j i ls l x _ vs o) zZ.nil ?_
 ·intro i X hm hX
  have:i=1∨i=2:=by simpa using wU.1 hm
  rcases this with rfl|rfl
  ·cases hX;exact zZz
  ·cases hX;exact hlit
 ·intro G1 W hB' G w hE hR u hu
  have e:=hB'.κ
  subst e
  refine(zHr (l:=ls) hR (by rfl) (by omega) hu).mono ?_
  rintro e w' ⟨v,b,S,e1,e2,e3,e4,e5,e6,e7⟩
  refine⟨v,b,S,e1,e2,e3,e4,e5,fun G' hE' hK' hS=>⟨by subst e6;simp only[V];exact⟨[],rfl,by simp only[VL]⟩,?_⟩⟩
  intro p hp u' hu'
  have hp':=List.mem_singleton.1 hp
  subst hp'
  have:=e7 G' hS _ (VL.later hB' hE' hK' (VL.rev l ls hl hlen)) u' hu'
  rw[hlen]at this
  exact this
 ·intro i
  exact gH (na:=(⟨0,fun G=>G=G0⟩:Nb)) xL mixed (yAH j i l x vs o) (zZ.cons (rB (zQi vs)) (zZ.cons (rB (dT _)) zZ.nil)) (by decide)
theorem zZx{l m r:List L3}(h:yT 40 l m=some r)(hm:m.length≠0):Ob.ok Tryz.prog (.app 24 24 (zJ c3 l) (zJ c3 m) (zJ c3 r) l.length m.length r.length 3 false):=qP zJT Tryz.underlying24 lQ rfl rfl rfl (by decide) rfl (by decide) h hm
theorem zEC{p0 x:Tm}{l:List Tm}{r:Tm×List Tm}(h:qE p0 x l=some r)(hx:¬((x.k==5)=true∧x.sub.length=2)):r=(x,l.reverse):=by
 obtain⟨k,n,sub⟩:=x
 unfold qE at h
 split at h
 ·rename_i k' n' a b e
  cases e
  split at h
  ·rename_i hk
   exact(hx ⟨hk,rfl⟩).elim
  ·cases h;rfl
 ·cases h;rfl
theorem zKs{p0:Tm}{q0:Option Addr×Nat×Nat}{G0:Gh}(hB:lD (⟨0,fun G=>G=G0⟩:Nb) G0)(h0:VL G0 G0.w0 (tmL p0) (sv p0 q0)):∀(N:Nat) (x:Tm) (l:List Tm) (r:Tm×List Tm) (hN:SizeOf.sizeOf x≤N) (h:qE p0 x l=some r) (h8:l.length≤8192) (q:Option Addr×Nat×Nat) (ls:List L3)
  (hx:VL G0 G0.w0 (tmL x) (sv x q)) (hl:VL G0 G0.w0 (zJ zH l) (sJ ls)) (hlen:ls.length=l.length),∃res,zWV G0 res r∧∀j:Nat->Value,dL (⟨0,fun G=>G=G0⟩:Nb) (inn (inn (lft (rgt (rgt (rgt (bod Tryz.f123))))))) (sp j 35 0 [(1,.mp 0 0),(2,.mp 1 0),(4,.sl (zJ c3 ls) ls.length (.st 0 3)),(5,.mp 2 0)]) ⟨[(0,.cells [.val (.int .i64 p0.k),.val (.int .i64 p0.n),.val (.slice q0.1 q0.2.1 q0.2.2)]),(1,.cells [ai 0,ai 0,.sl [] 0 .nl]),(2,.cells [.val (.int .i64 x.k),.val (.int .i64 x.n),.val (.slice q.1 q.2.1 q.2.2)])],3,[0],1,[]⟩ (fQ (⟨0,fun G=>G=G0⟩:Nb) (nQ (⟨0,fun G=>G=G0⟩:Nb) Tryz.f123 res [] 0) [.blk 0,.seq (rgt (rgt (rgt (rgt (bod Tryz.f123)))))]):=by
 intro N
 induction N with
 |zero=>
  intro x l r hN
  obtain⟨k,n,sub⟩:=x
  simp at hN
 |succ N spine_ih=>
 intro x l r hN h h8 q ls hx hl hlen
 obtain⟨vs,o,v1,v2,v3⟩:=zTU hB hx
 have hopen:∀ {res:AV} (j:Nat->Value),dL (⟨0,fun G=>G=G0⟩:Nb) (inn (inn (lft (rgt (rgt (rgt (bod Tryz.f123))))))) (sp j 35 0 [(1,.mp 0 0),(2,.mp 1 0),(4,.sl (zJ c3 ls) ls.length (.st 0 3)),(5,.mp 2 0)]) ⟨[(0,.cells [.val (.int .i64 p0.k),.val (.int .i64 p0.n),.val (.slice q0.1 q0.2.1 q0.2.2)]),(1,.cells [ai 0,ai 0,.sl [] 0 .nl]),(2,.cells [ai x.k,ai x.n,.sl (vs.map .val) x.sub.length o])],3,[0],1,[]⟩ (fQ (⟨0,fun G=>G=G0⟩:Nb) (nQ (⟨0,fun G=>G=G0⟩:Nb) Tryz.f123 res [] 0) [.blk 0,.seq (rgt (rgt (rgt (rgt (bod Tryz.f123)))))])->dL (⟨0,fun G=>G=G0⟩:Nb) (inn (inn (lft (rgt (rgt (rgt (bod Tryz.f123))))))) (sp j 35 0 [(1,.mp 0 0),(2,.mp 1 0),(4,.sl (zJ c3 ls) ls.length (.st 0 3)),(5,.mp 2 0)]) ⟨[(0,.cells [.val (.int .i64 p0.k),.val (.int .i64 p0.n),.val (.slice q0.1 q0.2.1 q0.2.2)]),(1,.cells [ai 0,ai 0,.sl [] 0 .nl]),(2,.cells [.val (.int .i64 x.k),.val (.int .i64 x.n),.val (.slice q.1 q.2.1 q.2.2)])],3,[0],1,[]⟩ (fQ (⟨0,fun G=>G=G0⟩:Nb) (nQ (⟨0,fun G=>G=G0⟩:Nb) Tryz.f123 res [] 0) [.blk 0,.seq (rgt (rgt (rgt (rgt (bod Tryz.f123)))))]):=by
  intro res j hd
  refine Dl.openB (b:=2) (cs:=[.val (.int .i64 x.k),.val (.int .i64 x.n),.val (.slice q.1 q.2.1 q.2.2)]) (cs':=[ai x.k,ai x.n,.sl (vs.map .val) x.sub.length o]) rfl (fun G1 W hB' G w hE hK us hus=>?_) hd
  have e:=hB'.κ
  subst e
  have hu:us=sv x q:=VL.litEq (sv x q) us hus
  subst hu
  exact VL.later hB' hE hK v2
 by_cases hk:(x.k==5)=true
 ·by_cases h2:x.sub.length=2
  ·obtain⟨k,n,sub⟩:=x
   match sub,h2 with
   | [a,b],_=>
   rw[qE]at h
   replace h:=ifT hk h
   rcases zCE (decide ((l.length:Int)≥8192))with h3|h3
   ·replace h:=ifT h3 h
    cases h
    exact⟨_,zNM hB h0,fun j=>hopen j (Dl.toFin (na:=(⟨0,fun G=>G=G0⟩:Nb)) xL mixed 3000 _ _ _ _ _ (spC j p0 q0 ls (.mk k n [a,b]) vs o) (zZ.cons (mG hk) (zZ.cons (mG rfl) (zZ.cons (mG (by rw[hlen];exact h3)) (zZ.cons (rB trivial) zZ.nil)))) (by decide))⟩
   ·replace h:=ifF h3 h
    obtain⟨l2,hg,h⟩:=zC h
    obtain⟨hg1,rfl⟩:=pN hg
    have w1:VL G0 G0.w0 (zH a++(zH b++[])) vs:=v1
    obtain⟨ua,u2,rfl,wa,w2⟩:=VL.split _ _ _ w1
    obtain⟨ub,u3,rfl,wb,w3⟩:=VL.split _ _ _ w2
    have e3:u3=[]:=by
     have:=VL.length _ _ w3
     exact List.length_eq_zero_iff.1 this
    subst e3
    rw[xE]at wa wb
    obtain⟨qa,rfl⟩:=zQj wa
    obtain⟨qb,rfl⟩:=zQj wb
    have h3':List.length l<8192:=by
     have:=of_decide_eq_false h3
     omega
    have hl2:VL G0 G0.w0 (zJ zH (l++[b])) (sJ (ls++[sv3 b qb])):=by
     simp only[zJ,sJ,List.flatMap_append,List.flatMap_cons,List.flatMap_nil,List.append_nil]
     refine VL.append _ _ _ _ hl ?_
     rw[xE];exact wb
    have hga:yT 40 ls [sv3 b qb]=some (ls++[sv3 b qb]):=by
     unfold yT
     rw[if_pos]
     simp only[List.length_cons,List.length_nil]at hg1 ⊢
     rw[hlen];exact hg1
    obtain⟨res,hgood,hdl⟩:=spine_ih a (l++[b]) r (by simp at hN;omega) h (by simp;omega) qa (ls++[sv3 b qb]) wa hl2 (by simp[hlen])
    refine⟨res,hgood,fun j=>hopen j (Dl.toHead (na:=(⟨0,fun G=>G=G0⟩:Nb)) xL mixed 3000 _ _ _ _ _ (fun i=>spD i j k n a b qa qb _ _ _ ls (ls++[sv3 b qb]) o) ?_ fun i=>hdl i)⟩
    exact zZ.cons (mG hk) (zZ.cons (mG rfl) (zZ.cons (mG (by rw[hlen];exact h3)) (zZ.cons (zZx (m:=[sv3 b qb]) hga (by simp)) (zZ.cons (rB trivial) (zZ.cons (rB (uD zJT.data _)) zZ.nil)))))
  ·have hr:=zEC h (fun e=>h2 e.2)
   subst hr
   refine⟨.tup [.agg [ai x.k,ai x.n,.sl (vs.map .val) x.sub.length .no],.sl (zJ zH l.reverse) l.length .no],zEB hB v1,fun j=>hopen j (Dl.step ?_)⟩
   have hx1:=yAJ (G0:=G0) (p0:=p0) (q0:=q0) j v3 hl hlen h8
   refine nF (Q:=_) xL mixed 3000 (.run (inn (inn (lft (rgt (rgt (rgt (bod Tryz.f123)))))))) [] _ _ _ _ _ _ _ _ (yAE j ls x _ vs o) (zZ.cons (mG hk) (zZ.cons (mG (by simp;omega)) zZ.nil)) ?_
   simp only[KQ,zJH,wZ,aZ,if_true]
   exact hx1
 ·have hr:=zEC h (fun e=>hk e.1)
  subst hr
  ·refine⟨.tup [.agg [ai x.k,ai x.n,.sl (vs.map .val) x.sub.length .no],.sl (zJ zH l.reverse) l.length .no],zEB hB v1,fun j=>hopen j (Dl.step ?_)⟩
   have hx1:=yAI (G0:=G0) (p0:=p0) (q0:=q0) j v3 hl hlen h8
   refine nF (Q:=_) xL mixed 3000 (.run (inn (inn (lft (rgt (rgt (rgt (bod Tryz.f123)))))))) [] _ _ _ _ _ _ _ _ (yAA j ls x _ vs o) (zZ.cons (mG (by simpa using hk)) zZ.nil) ?_
   simp only[KQ,zJH,wZ,aZ,if_true]
   exact hx1
theorem zZw{p0:Tm}{r:Tm×List Tm}(h:zZy p0=some r):CT Tryz.prog 123 [] [tmA p0] (.tup [tmA r.1,.sl (zJ zH r.2) r.2.length .no]) [] 0:=by
 refine⟨?_,⟨⟨trivial,trivial,⟨trivial,dT _⟩,trivial⟩,trivial⟩,(fun _ h=>nomatch h),⟨⟨trivial,trivial,dT _,trivial⟩,dT _,trivial⟩,(fun _ h=>nomatch h)⟩
 intro G0 W cargs hB hR hv
 cases hc:cargs.toList with
 |nil=>rw[hc]at hv;simp only[VL]at hv
 |cons u us=>
  rw[hc]at hv
  simp only[VL]at hv
  obtain⟨hu,hus⟩:=hv
  have hus':us=[]:=by
   have:=VL.length _ _ hus
   exact List.length_eq_zero_iff.1 this
  subst hus'
  simp only[tmA,V]at hu
  obtain⟨ws,rfl,hws⟩:=hu
  obtain⟨q0,rfl⟩:=zQj hws
  have hBK:lD (⟨0,fun G=>G=G0⟩:Nb) G0:=⟨hB.ρ,hB.τ,hB.LF,rfl⟩
  have h0:=VL.back hB hR hws
  obtain⟨res,hgood,hdl⟩:=zKs hBK h0 _ p0 [] r (Nat.le_refl _) h (by simp) q0 [] h0 (by simp[zJ,sJ,VL]) rfl
  have hv2:VL G0 W [.agg [.val (.int .i64 p0.k),.val (.int .i64 p0.n),.val (.slice q0.1 q0.2.1 q0.2.2)]] cargs.toList:=by
   rw[hc]
   simp only[VL,V,and_true]
   exact⟨sv p0 q0,rfl,VL.lits (sv p0 q0)⟩
  have hb:=zTd (na:=(⟨0,fun G=>G=G0⟩:Nb)) (res:=res) (H1:=[]) (nst:=0) rfl Tryz.func123 (by kernel_rfl) (zCk (na:=(⟨0,fun G=>G=G0⟩:Nb)) (m:=.run (bod Tryz.f123)) (fs:=[]) xL mixed (fun i=>spE i p0.k p0.n q0) (zZ.cons (rB trivial) (zZ.cons (rB trivial) zZ.nil)) fun i=>hdl i) hBK hR hv2
  refine hb.mono ?_
  rintro e W' ⟨u,G',s',rfl,hE,hR',hu,h1,h2⟩
  exact⟨u,G',s',rfl,hE,hR',hgood W G' W' hE hR'.below u hu,h1,h2⟩
def zCJ(_qq:Nat)(p0:Tm):Option (Tm×List Tm):=zZy p0
theorem zKr{qq:Nat}{p0:Tm}{r:Tm×List Tm}(h:zCJ qq p0=some r):CT Tryz.prog 123 [] [tmA p0] (.tup [tmA r.1,.sl (zJ zH r.2) r.2.length .no]) [] 0:=zZw h
def zHN(qq:Nat)(p0 p1:Int)(p2:List Tm):Option Tm:=
 some (Tm.mk p0 p1 p2)
theorem zNN{qq p0 p1 p2 r}(h:zHN qq p0 p1 p2=some r):Ct 143 [] [ai p0,ai p1,slv zH p2 .no] (tmA r) [] 0:=⟨by
 unfold zHN at h
 cases h
 exact tF ⟨Tryz.func143,rfl⟩ 1 [] (oD (dT p2) o0),⟨tv,tv,⟨tv,dT _⟩,tv⟩,zB,⟨tv,tv,dT _,tv⟩,zB⟩
def zCK(qq:Nat)(p0 p1:Tm):Option Tm:=
 zHN qq 5 0 [p0,p1]>>=fun r1=>
 some r1
theorem zDY{qq p0 p1 r}(h:zCK qq p0 p1=some r):Ct 167 [] [tmA p0,tmA p1] (tmA r) [] 0:=⟨by
 unfold zCK at h
 obtain⟨r1,h2,h⟩:=zC h
 obtain rfl:=sj h
 exact tF ⟨Tryz.func167,rfl⟩ 1 [] (oD (dT r1.sub)<|oC 0 [] (zNN h2)<|oS 2 (yW xE [p0,p1]) o0),⟨⟨tv,tv,⟨tv,dT _⟩,tv⟩,⟨tv,tv,⟨tv,dT _⟩,tv⟩,tv⟩,zB,⟨tv,tv,dT _,tv⟩,zB⟩
def lV:Nat->List Tm->Int->Int->Int->List Tm->Option Tm
 |0,_,_,_,_,_=>none
 |qq+1,p1,v9,zW,wI,xU=>
 if decide (v9<(p1.length:Int))then
 zR p1 v9>>=fun x2=>
 zCK qq (Tm.mk zW wI xU) x2>>=fun r4=>
 lV qq p1 (w64 (v9+1)) r4.k r4.n r4.sub
 else
 some (Tm.mk zW wI xU)
def eQ(qq:Nat)(p0:Tm)(p1:List Tm):Option Tm:=
 lV qq p1 0 p0.k p0.n p0.sub
theorem zTV:∀qq:Nat,(∀p1 v9 zW wI xU r,lV qq p1 v9 zW wI xU=some r->(∀j,dL 0 (inn (inn (rgt (lft (rgt (bod Tryz.f126)))))) (sp j 18 0 [(2,.mp 0 0),(4,.mp 1 0),(7,slv zH p1 .no),(8,ai (p1.length:Int)),(9,ai v9)]) (⟨[(0,.cells [ai zW,ai wI,slv zH xU .no]),(1,.cells [ai 0,ai 0,slv zH ([]:List Tm) .nl])],2,[],0,[]⟩) (fQ 0 (nQ 0 Tryz.f126 (tmA r) [] 0) [.blk 0,.seq (rgt (rgt (bod Tryz.f126)))]))):=by
 intro qq
 induction qq with
 |zero=>
  exact fun _ _ _ _ _ _ h=>nn h
 |succ qq ih=>
  intro p1 v9 zW wI xU r h
  rw[lV]at h
  obtain⟨h1,h⟩|⟨h1,h⟩:=spl h
  obtain⟨x2,h3,h⟩:=zC h
  obtain⟨r4,h5,h⟩:=zC h
  exact fun j=>lH 2 [] [0,1] [] [2,4,7,8,9] (oD (dT p1)<|oD (dT ([]:List Tm))<|oD (dT r4.sub)<|oC 4 [] (zDY h5)<|oA 0 (xA (o:=.no) h3)<|oB 0 h1 o0) (ih _ _ _ _ _ _ h)
  cases h
  exact fun j=>lF 2 [] (oD (dT xU)<|oB 0 h1 o0)
theorem zDZ{qq p0 p1 r}(h:eQ qq p0 p1=some r):Ct 126 [] [tmA p0,slv zH p1 .no] (tmA r) [] 0:=⟨by
 unfold eQ at h
 exact tH ⟨Tryz.func126,rfl⟩ 1 [] [0,1] [] [2,4,7,8,9] (oD (dT p1)<|oD (dT ([]:List Tm))<|oD (dT p0.sub) o0) (zTV _ _ _ _ _ _ _ h),⟨⟨tv,tv,⟨tv,dT _⟩,tv⟩,⟨tv,dT _⟩,tv⟩,zB,⟨tv,tv,dT _,tv⟩,zB⟩
mutual
def e77:Nat->Tm->Option Tm
 |0,_=>none
 |qq+1,p0=>
 eR qq p0 0 []
def eR:Nat->Tm->Int->List Tm->Option Tm
 |0,_,_,_=>none
 |qq+1,p0,v14,sH=>
 if decide (v14<(p0.sub.length:Int))then
 zR p0.sub v14>>=fun x2=>
 e77 qq x2>>=fun r4=>
 yT 40 sH [r4]>>=fun l6=>
 eR qq p0 (w64 (v14+1)) l6
 else
 some (Tm.mk p0.k p0.n sH)
end
abbrev K77 (p0 r:Tm) (C:Cf):Prop:=C 77 [] [tmA p0] (tmA r) [] 0
theorem k77{p0 r}(h:K77 p0 r Ci):K77 p0 r Ct:=⟨h,⟨⟨tv,tv,⟨tv,dT _⟩,tv⟩,tv⟩,zB,⟨tv,tv,dT _,tv⟩,zB⟩
theorem zNO:∀qq:Nat,(∀p0 r,e77 qq p0=some r->K77 p0 r Ct)∧(∀p0 v14 sH r,eR qq p0 v14 sH=some r->(∀j,dL 0 (inn (inn (rgt (lft (rgt (rgt (bod Tryz.f77))))))) (sp j 27 0 [(2,.mp 0 0),(3,.mp 1 0),(12,slv zH p0.sub .no),(13,ai (p0.sub.length:Int)),(14,ai v14)]) (⟨[(0,.cells [ai 0,ai 0,slv zH ([]:List Tm) .nl]),(1,.cells [ai p0.k,ai p0.n,slv zH sH (.st 0 3)])],2,[0],1,[]⟩) (fQ 0 (nQ 0 Tryz.f77 (tmA r) [] 0) [.blk 0,.seq (rgt (rgt (rgt (bod Tryz.f77))))]))):=by
 intro qq
 induction qq with
 |zero=>
  exact⟨fun _ _ h=>nn h,fun _ _ _ _ h=>nn h⟩
 |succ qq ih=>
  obtain⟨yAK,zLR⟩:=ih
  refine⟨?_,?_⟩
  intro p0 r h
  rw[e77]at h
  exact k77 (tH ⟨Tryz.func77,rfl⟩ 5 [(some 2,2,3)] [1,2] [0] [2,3,12,13,14] (oD (dT p0.sub)<|oD (dT ([]:List Tm))<|oD (dT ([]:List Tm)) o0) (zLR _ _ _ _ h))
  intro p0 v14 sH r h
  rw[eR]at h
  obtain⟨h1,h⟩|⟨h1,h⟩:=spl h
  obtain⟨x2,h3,h⟩:=zC h
  obtain⟨r4,h5,h⟩:=zC h
  obtain⟨l6,h7,h⟩:=zC h
  exact fun j=>lH 2 [] [0,1] [1] [2,3,12,13,14] (oD (dT p0.sub)<|oD (dT l6)<|oD (dT ([]:List Tm))<|oP 0 (vA h7 (by simp))<|oS 0 (yW xE [r4])<|oC 1 [] (yAK _ _ h5)<|oCl 2<|oA 0 (xA (o:=.no) h3)<|oB 0 h1 o0) (zLR _ _ _ _ h)
  cases h
  exact fun j=>lF 2 [] (oD (dT sH)<|oB 0 h1 o0)
theorem c77{qq p0 r}(h:e77 qq p0=some r):K77 p0 r Ct:=(zNO _).1 _ _ h
def e53(qq:Nat)(p0:Tm):Option Tm:=
 e52 qq p0>>=fun r1=>
 if r1 then
 e77 qq p0>>=fun r4=>
 some r4
 else
 some (Tm.mk 0 0 [])
theorem q53:Qf 53 Tryz.f53:=⟨Tryz.func53,rfl⟩
theorem c53{qq p0 r}(h:e53 qq p0=some r):Ct 53 [] [tmA p0] (tmA r) [] 0:=⟨by
 unfold e53 at h
 obtain⟨r1,h2,h⟩:=zC h
 obtain⟨h3,h⟩|⟨h3,h⟩:=spl h
 obtain⟨r4,h5,h⟩:=zC h
 obtain rfl:=sj h
 exact tF q53 1 [] (oD (dT r4.sub)<|oC 2 [] (c77 h5)<|oK 1 [] h3 (c52 h2) o0)
 obtain rfl:=sj h
 exact tF q53 2 [] (oD (dT ([]:List Tm))<|oK 1 [] h3 (c52 h2) o0),⟨⟨tv,tv,⟨tv,dT _⟩,tv⟩,tv⟩,zB,⟨tv,tv,dT _,tv⟩,zB⟩
theorem sO(t:Tm):Tm.mk t.k t.n t.sub=t:=by cases t;rfl
theorem zCL{α:Type}{l:List α}{v:Nat}{x:α}{r:List α}(h:l.drop v=x::r):l.take (v+1)=l.take v++[x]:=by
 have:l[v]? = some x:=by
  have:=congrArg (fun z=>z[0]?) h
  simpa using this
 rw[List.take_add_one,this];rfl
mutual
theorem zED:∀(t:Tm),yY t=true->Evt (fun q=>e77 q t) t
 | .mk k n l,hg=>by
  refine Evt.succ ?_
  simp only[e77]
  have hh:=vB hg
  exact zCM l (.mk k n l) 0 [] rfl hh.2 (by have:=(lU hh.1).2.2.2.2;exact this) rfl
theorem zCM:∀(l:List Tm) (p:Tm) (v:Nat) (acc:List Tm),p.sub.drop v=l->wH l=true->p.sub.length≤2->acc=p.sub.take v->Evt (fun q=>eR q p (v:Int) acc) p
 | [],p,v,acc,hd,hg,hl,ha=>by
  refine Evt.succ ?_
  simp only[eR]
  refine Evt.ifF (yC hd) (Evt.ret.eq ?_)
  have:p.sub.length≤v:=List.drop_eq_nil_iff.1 hd
  rw[ha,List.take_of_length_le this,sO]
 |t::l,p,v,acc,hd,hg,hl,ha=>by
  have hlt:=yE hd
  have hc:=xX hg
  refine Evt.succ ?_
  simp only[eR]
  refine Evt.ifT (yB hd) (Evt.pure (zX hd) ((zED t hc.1).bind (Evt.pure (yG (by rw[ha];simp<;>omega)) ?_)))
  rw[zU v (by omega)]
  exact zCM l p (v+1) _ (zS hd) hc.2 hl (by rw[ha,zCL hd])
end
def nU(t:Tm):Tm:=if zM t=true then t else .mk 0 0 []
theorem rD(t:Tm)(ho:t.Ok):Evt (fun q=>e53 q t) (nU t):=by
 simp only[e53]
 refine(yQ t ho).bind ?_
 unfold nU
 by_cases h:zM t=true
 ·rw[if_pos h];exact Evt.ifT h ((zED t (zQ h).2.2).bind Evt.ret)
 ·rw[if_neg h];exact Evt.ifF (by simpa using h) Evt.ret
def hdT:Tm->Tm
 | .mk k n [a,b]=>if k=5 then hdT a else .mk k n [a,b]
 |x=>x
def arT:Tm->List Tm
 | .mk k _ [a,b]=>if k=5 then arT a++[b]else []
 |_=>[]
theorem zTW{l:List Tm}(h:l.length=2):∃a b,l=[a,b]:=by
 rcases l with _|⟨a,_|⟨b,_|⟨c,l⟩⟩⟩<;>simp at h
 exact⟨a,b,rfl⟩
theorem cX(n:Int)(a b:Tm):hdT (.mk 5 n [a,b])=hdT a:=by rw[hdT];simp
theorem gM(n:Int)(a b:Tm):arT (.mk 5 n [a,b])=arT a++[b]:=by rw[arT];simp
theorem cY{t:Tm}(h:t.k≠5):hdT t=t:=by
 unfold hdT
 split
 ·exact if_neg h
 ·rfl
theorem gN{t:Tm}(h:t.k≠5):arT t=[]:=by
 unfold arT
 split
 ·exact if_neg h
 ·rfl
theorem gO{P:Tm->Prop}(h0:∀t,yY t=true->t.k≠5->P t)(h1:∀n a b,yY (.mk 5 n [a,b])=true->yY a=true->yY b=true->P a->P (.mk 5 n [a,b])):∀t:Tm,yY t=true->P t:=by
 intro t
 induction hn:t.nodes using Nat.strongRecOn generalizing t with
 |ind m ih=>
  intro hg
  by_cases h:t.k=5
  ·obtain⟨k,n,l⟩:=t
   have hh:=vB hg
   have hs:=uP hh.1
   simp only[Tm.k]at h
   subst h
   obtain⟨a,b,rfl⟩:=zTW (hs.2.2.2.2.2.1 (.inr (.inr rfl))).1
   have hc:=xX hh.2
   have hc2:=xX hc.2
   refine h1 n a b hg hc.1 hc2.1 (ih a.nodes ?_ a rfl hc.1)
   rw[Tm.nodes,yL]at hn;omega
  ·exact h0 t hg h
theorem zQh(p0:Tm):∀t:Tm,yY t=true->∀l:List Tm,l.length+t.nodes≤8192->qE p0 t l=some (hdT t,arT t++l.reverse):=by
 refine gO ?_ ?_
 ·intro t hg hk l hl
  rw[cY hk,gN hk]
  obtain⟨k,n,ls⟩:=t
  replace hk:¬k=5:=hk
  rcases ls with _|⟨a,_|⟨b,_|⟨c,ls⟩⟩⟩<;>unfold qE<;>simp[hk]
 ·intro n a b hg ha hb ih l hl
  rw[Tm.nodes,yL,yL,yL]at hl
  rw[cX,gM]
  unfold qE
  rw[zTE (show ((5:Int)==5)=true from rfl),zPT (by simp<;>omega),yG (by simp<;>omega)]
  show qE p0 a (l++[b])=_
  rw[ih (l++[b]) (by simp<;>omega)]
  simp
theorem mJ(t:Tm)(hs:zM t=true):Evt (fun q=>zCJ q t) (hdT t,arT t):=by
 refine Evt.mk fun q=>?_
 have h:=zQ hs
 show qE t t []=_
 rw[zQh t t h.2.2 [] (by simpa using h.1)];simp
theorem zBH:∀t:Tm,yY t=true->yY (hdT t)=true∧(hdT t).k≠5∧(hdT t).nodes≤t.nodes∧(hdT t).high≤t.high∧∀x∈arT t,yY x=true∧x.nodes<t.nodes∧x.high<t.high:=by
 refine gO ?_ ?_
 ·intro t hg hk
  rw[cY hk,gN hk]
  exact⟨hg,hk,Nat.le_refl _,Nat.le_refl _,fun x hx=>by cases hx⟩
 ·intro n a b hg ha hb ih
  rw[cX,gM]
  simp only[Tm.nodes,yL,Tm.high,wT]
  refine⟨ih.1,ih.2.1,by omega,by omega,fun x hx=>?_⟩
  rcases List.mem_append.1 hx with hx|hx
  ·have:=ih.2.2.2.2 x hx;exact⟨this.1,by omega,by omega⟩
  ·simp at hx;subst hx;exact⟨hb,by omega,by omega⟩
theorem lW{t:Tm}(h1:t.nodes≤8192)(h2:t.high≤128)(h3:yY t=true):zM t=true:=by
 unfold zM;simp[h1,h2,h3]
theorem yR{t x:Tm}(h:zM t=true)(hx:x∈arT t):zM x=true:=by
 have hs:=zQ h
 have:=(zBH t hs.2.2).2.2.2.2 x hx
 exact lW (by omega) (by omega) this.1
theorem tJ{t:Tm}(h:zM t=true):zM (hdT t)=true:=by
 have hs:=zQ h
 have:=zBH t hs.2.2
 exact lW (by omega) (by omega) this.1
theorem tM:∀t:Tm,yY t=true->(arT t).length<t.nodes:=by
 refine gO ?_ ?_
 ·intro t hg hk
  rw[gN hk];have:=sT t;simp;omega
 ·intro n a b hg ha hb ih
  rw[gM,Tm.nodes,yL,yL,yL];simp;omega
def apT(f:Tm):List Tm->Tm
 | []=>f
 |a::l=>apT (.mk 5 0 [f,a]) l
theorem zAr(f a:Tm):Evt (fun q=>zCK q f a) (.mk 5 0 [f,a]):=Evt.mk fun _=>rfl
theorem zEE:∀(l p:List Tm) (v:Nat) (f:Tm),p.drop v=l->p.length<9223372036854775808->Evt (fun q=>lV q p (v:Int) f.k f.n f.sub) (apT f l)
 | [],p,v,f,hd,hl=>by
  refine Evt.succ ?_
  simp only[lV]
  exact Evt.ifF (yC hd) (Evt.ret.eq (by rw[sO,apT]))
 |a::l,p,v,f,hd,hl=>by
  have hlt:=yE hd
  refine Evt.succ ?_
  simp only[lV]
  rw[sO]
  refine Evt.ifT (yB hd) (Evt.pure (zX hd) ((zAr f a).bind ?_))
  rw[zU v (by omega),apT]
  exact zEE l p (v+1) (.mk 5 0 [f,a]) (zS hd) hl
theorem qV(f:Tm)(l:List Tm)(h:l.length<9223372036854775808):Evt (fun q=>eQ q f l) (apT f l):=by
 simp only[eQ]
 exact zEE l l 0 f rfl h
theorem nV:∀(l:List Tm) (f:Tm),f.Ok->(∀x∈l,x.Ok)->(apT f l).Ok
 | [],f,hf,_=>by rw[apT];exact hf
 |a::l,f,hf,hl=>by
  rw[apT]
  refine nV l _ ?_ fun x hx=>hl x (by simp[hx])
  rw[Tm.Ok,OkL,OkL,OkL]
  exact⟨by simp,hf,hl a (by simp),trivial⟩
def zEz(qq:Nat)(p0:Int):Option Tm:=
 zHN qq 2 p0 []>>=fun r1=>
 some r1
theorem zKq{qq p0 r}(h:zEz qq p0=some r):Ct 110 [] [ai p0] (tmA r) [] 0:=⟨by
 unfold zEz at h
 obtain⟨r1,h2,h⟩:=zC h
 obtain rfl:=sj h
 exact tF ⟨Tryz.func110,rfl⟩ 1 [] (oD (dT r1.sub)<|oC 0 [] (zNN h2) o0),⟨tv,tv⟩,zB,⟨tv,tv,dT _,tv⟩,zB⟩
def zNP(qq:Nat)(p0:Int):Option Bool:=
 if decide (p0≥0)then
 some (decide (p0≤1048576))
 else
 some false
theorem zZv:Qf 179 Tryz.f179:=⟨Tryz.func179,rfl⟩
theorem zTX{qq p0 r}(h:zNP qq p0=some r):Ct 179 [] [ai p0] (ab r) [] 0:=⟨by
 unfold zNP at h
 obtain⟨h1,h⟩|⟨h1,h⟩:=spl h
 cases h
 exact tF zZv 1 [] (oB 0 h1 o0)
 cases h
 exact tF zZv 0 [] (oB 0 h1 o0),⟨tv,tv⟩,zB,tv,zB⟩
def cZ(qq:Nat)(p0 q1 q2:Int):Option Int:=
 if decide (p0<q1)then
 some p0
 else
 some (w64 (p0+q2))
theorem zHO:Qf 181 Tryz.f181:=⟨Tryz.func181,rfl⟩
theorem zQg{qq p0 q1 q2 r}(h:cZ qq p0 q1 q2=some r):Ct 181 [.cells [ai q1],.cells [ai q2]] [ai p0,.mp 0 0,.mp 1 0] (ai r) [.cells [ai q1],.cells [ai q2]] 0:=⟨by
 unfold cZ at h
 obtain⟨h1,h⟩|⟨h1,h⟩:=spl h
 obtain rfl:=sj h
 exact tF zHO 0 [0,1] (oB 1 h1 o0)
 obtain rfl:=sj h
 exact tF zHO 2 [0,1] (oB 1 h1 o0),⟨tv,(lz rfl),(lz rfl),tv⟩,(zA ⟨tv,tv⟩ (zA ⟨tv,tv⟩ zB)),tv,(zA ⟨tv,tv⟩ (zA ⟨tv,tv⟩ zB))⟩
def zFP(qq:Nat)(p0:Int):Option Tm:=
 zHN qq 1 p0 []>>=fun r1=>
 some r1
theorem zNQ{qq p0 r}(h:zFP qq p0=some r):Ct 183 [] [ai p0] (tmA r) [] 0:=⟨by
 unfold zFP at h
 obtain⟨r1,h2,h⟩:=zC h
 obtain rfl:=sj h
 exact tF ⟨Tryz.func183,rfl⟩ 1 [] (oD (dT r1.sub)<|oC 0 [] (zNN h2) o0),⟨tv,tv⟩,zB,⟨tv,tv,dT _,tv⟩,zB⟩
mutual
def rE:Nat->Tm->Int->Int->Int->Option Tm
 |0,_,_,_,_=>none
 |qq+1,p0,p1,q2,q3=>
 if p0.k==1 then
 if decide (p0.n≥p1)then
 cZ qq (w64 (p0.n-p1)) q2 q3>>=fun r3=>
 zFP qq (w64 (r3+p1))>>=fun r5=>
 some r5
 else
 zFP qq p0.n>>=fun r7=>
 some r7
 else
 vO qq p0 p1 q2 q3 0 []
def vO:Nat->Tm->Int->Int->Int->Int->List Tm->Option Tm
 |0,_,_,_,_,_,_=>none
 |qq+1,p0,p1,q2,q3,v38,xH=>
 if decide (v38<(p0.sub.length:Int))then
 zR p0.sub v38>>=fun x10=>
 if v38==1 then
 if p0.k != 5 then
 rE qq x10 (w64 (p1+1)) q2 q3>>=fun r14=>
 yT 40 xH [r14]>>=fun l16=>
 vO qq p0 p1 q2 q3 (w64 (v38+1)) l16
 else
 rE qq x10 p1 q2 q3>>=fun r18=>
 yT 40 xH [r18]>>=fun l20=>
 vO qq p0 p1 q2 q3 (w64 (v38+1)) l20
 else
 rE qq x10 p1 q2 q3>>=fun r22=>
 yT 40 xH [r22]>>=fun l24=>
 vO qq p0 p1 q2 q3 (w64 (v38+1)) l24
 else
 some (Tm.mk p0.k p0.n xH)
end
abbrev bA (p0:Tm) (p1 q2 q3:Int) (r:Tm) (C:Cf):Prop:=C 180 [.cells [ai q2],.cells [ai q3]] [tmA p0,ai p1,.clo 181 [] [.mp 0 0,.mp 1 0]] (tmA r) [.cells [ai q2],.cells [ai q3]] 0
theorem zCN:Qf 180 Tryz.f180:=⟨Tryz.func180,rfl⟩
theorem zCO{p0 p1 q2 q3 r}(h:bA p0 p1 q2 q3 r Ci):bA p0 p1 q2 q3 r Ct:=⟨h,⟨⟨tv,tv,⟨tv,dT _⟩,tv⟩,tv,⟨tv,⟨(lz rfl),(lz rfl),tv⟩⟩,tv⟩,(zA ⟨tv,tv⟩ (zA ⟨tv,tv⟩ zB)),⟨tv,tv,dT _,tv⟩,(zA ⟨tv,tv⟩ (zA ⟨tv,tv⟩ zB))⟩
theorem fE:∀qq:Nat,(∀p0 p1 q2 q3 r,rE qq p0 p1 q2 q3=some r->bA p0 p1 q2 q3 r Ct)∧(∀p0 p1 q2 q3 v38 xH r,vO qq p0 p1 q2 q3 v38 xH=some r->(∀j,dL 2 (inn (inn (rgt (lft (rgt (rgt (rgt (bod Tryz.f180)))))))) (sp j 64 0 [(1,ai p1),(2,.clo 181 [] [.mp 0 0,.mp 1 0]),(3,.mp 2 0),(6,.mp 3 0),(7,.mp 4 0),(36,slv zH p0.sub .no),(37,ai (p0.sub.length:Int)),(38,ai v38)]) (⟨[(0,.cells [ai q2]),(1,.cells [ai q3]),(2,.cells [ai p0.k,ai p0.n,slv zH p0.sub .no]),(3,.cells [ai 0,ai 0,slv zH ([]:List Tm) .nl]),(4,.cells [ai p0.k,ai p0.n,slv zH xH (.st 0 3)])],5,[0],1,[]⟩) (fQ 2 (nQ 2 Tryz.f180 (tmA r) [.cells [ai q2],.cells [ai q3]] 0) [.blk 0,.seq (rgt (rgt (rgt (rgt (bod Tryz.f180)))))]))):=by
 intro qq
 induction qq with
 |zero=>
  exact⟨fun _ _ _ _ _ h=>nn h,fun _ _ _ _ _ _ _ h=>nn h⟩
 |succ qq ih=>
  obtain⟨zAq,pG⟩:=ih
  refine⟨?_,?_⟩
  intro p0 p1 q2 q3 r h
  rw[rE]at h
  obtain⟨h1,h⟩|⟨h1,h⟩:=spl h
  have k:=oB 1 h1 o0
  obtain⟨h2,h⟩|⟨h2,h⟩:=spl h
  obtain⟨r3,h4,h⟩:=zC h
  obtain⟨r5,h6,h⟩:=zC h
  obtain rfl:=sj h
  exact zCO (tF zCN 1 [0,1] (oD (dT r5.sub)<|oC 1 [] (zNQ h6)<|oC 2 [0,1] (zQg h4)<|oB 1 h2 k))
  obtain⟨r7,h8,h⟩:=zC h
  obtain rfl:=sj h
  exact zCO (tF zCN 1 [0,1] (oD (dT r7.sub)<|oC 1 [] (zNQ h8)<|oB 1 h2 k))
  exact zCO (tH zCN 5 [(some 4,2,3)] [0,1,2,3,4] [0] [1,2,3,6,7,36,37,38] (oD (dT p0.sub)<|oD (dT ([]:List Tm))<|oD (dT ([]:List Tm))<|oD (dT p0.sub)<|oB 1 h1 o0) (pG _ _ _ _ _ _ _ h))
  intro p0 p1 q2 q3 v38 xH r h
  rw[vO]at h
  have z {os ob} (k:Oz os ob):=oD (dT ([]:List Tm))<|oD (dT p0.sub)<|k
  obtain⟨h9,h⟩|⟨h9,h⟩:=spl h
  obtain⟨x10,h11,h⟩:=zC h
  have k:=oA 0 (xA (o:=.no) h11)<|oB 0 h9 o0
  obtain⟨h12,h⟩|⟨h12,h⟩:=spl h
  have k:=oB 2 h12 k
  obtain⟨h13,h⟩|⟨h13,h⟩:=spl h
  obtain⟨r14,h15,h⟩:=zC h
  obtain⟨l16,h17,h⟩:=zC h
  exact fun j=>lH 2 [] [0,1,2,3,4] [1] [1,2,3,6,7,36,37,38] (oD (dT p0.sub)<|oD (dT l16)<|z<|oP 0 (vA h17 (by simp))<|oS 0 (yW xE [r14])<|oC 1 [0,1] (zAq _ _ _ _ _ h15)<|oCl 1<|oB 1 h13 k) (pG _ _ _ _ _ _ _ h)
  obtain⟨r18,h19,h⟩:=zC h
  obtain⟨l20,h21,h⟩:=zC h
  exact fun j=>lH 2 [] [0,1,2,3,4] [1] [1,2,3,6,7,36,37,38] (oD (dT p0.sub)<|oD (dT l20)<|z<|oP 0 (vA h21 (by simp))<|oS 0 (yW xE [r18])<|oC 1 [0,1] (zAq _ _ _ _ _ h19)<|oCl 0<|oB 1 h13 k) (pG _ _ _ _ _ _ _ h)
  obtain⟨r22,h23,h⟩:=zC h
  obtain⟨l24,h25,h⟩:=zC h
  exact fun j=>lH 2 [] [0,1,2,3,4] [1] [1,2,3,6,7,36,37,38] (oD (dT p0.sub)<|oD (dT l24)<|z<|oP 0 (vA h25 (by simp))<|oS 0 (yW xE [r22])<|oC 1 [0,1] (zAq _ _ _ _ _ h23)<|oCl 0<|oB 2 h12 k) (pG _ _ _ _ _ _ _ h)
  obtain rfl:=sj h
  exact fun j=>lF 2 [0,1] (oD (dT xH)<|oB 0 h9 o0)
theorem zQf{qq p0 p1 q2 q3 r}(h:rE qq p0 p1 q2 q3=some r):bA p0 p1 q2 q3 r Ct:=(fE _).1 _ _ _ _ _ h
def zNR(qq:Nat)(p0:Tm)(p1 p2:Int):Option (Tm×Int):=
 e52 qq p0>>=fun r1=>
 if r1 then
 zNP qq p1>>=fun r4=>
 if r4 then
 zNP qq p2>>=fun r7=>
 if r7 then
 rE qq p0 0 p2 p1>>=fun r10=>
 e52 qq r10>>=fun r12=>
 if r12 then
 some (r10,0)
 else
 some ((Tm.mk 0 0 []),2)
 else
 some ((Tm.mk 0 0 []),5)
 else
 some ((Tm.mk 0 0 []),5)
 else
 some ((Tm.mk 0 0 []),5)
theorem zQe:Qf 144 Tryz.f144:=⟨Tryz.func144,rfl⟩
theorem zZu{qq p0 p1 p2 r}(h:zNR qq p0 p1 p2=some r):Ct 144 [] [tmA p0,ai p1,ai p2] (.tup [tmA r.1,ai r.2]) [] 0:=⟨by
 unfold zNR at h
 obtain⟨r1,h2,h⟩:=zC h
 obtain⟨h3,h⟩|⟨h3,h⟩:=spl h
 obtain⟨r4,h5,h⟩:=zC h
 have k:=oK 1 [] h3 (c52 h2) o0
 obtain⟨h6,h⟩|⟨h6,h⟩:=spl h
 obtain⟨r7,h8,h⟩:=zC h
 have k:=oK 2 [] h6 (zTX h5) k
 obtain⟨h9,h⟩|⟨h9,h⟩:=spl h
 obtain⟨r10,h11,h⟩:=zC h
 obtain⟨r12,h13,h⟩:=zC h
 have k:=oC 2 [2,1] (zQf h11)<|oK 2 [] h9 (zTX h8) k
 obtain⟨h14,h⟩|⟨h14,h⟩:=spl h
 cases h
 exact tF zQe 3 [] (oD (dT r10.sub)<|oK 2 [] h14 (c52 h13) k)
 cases h
 exact tF zQe 2 [] (oD (dT ([]:List Tm))<|oK 2 [] h14 (c52 h13) k)
 cases h
 exact tF zQe 2 [] (oD (dT ([]:List Tm))<|oK 2 [] h9 (zTX h8) k)
 cases h
 exact tF zQe 2 [] (oD (dT ([]:List Tm))<|oK 2 [] h6 (zTX h5) k)
 cases h
 exact tF zQe 2 [] (oD (dT ([]:List Tm))<|oK 1 [] h3 (c52 h2) o0),⟨⟨tv,tv,⟨tv,dT _⟩,tv⟩,tv,tv,tv⟩,zB,⟨⟨tv,tv,dT _,tv⟩,tv,tv⟩,zB⟩
def zHP(qq:Nat)(p0:Tm)(p1:Int):Option (Tm×Int):=
 zNR qq p0 p1 0>>=fun r1=>
 some (r1.1,r1.2)
theorem zTY{qq p0 p1 r}(h:zHP qq p0 p1=some r):Ct 111 [] [tmA p0,ai p1] (.tup [tmA r.1,ai r.2]) [] 0:=⟨by
 unfold zHP at h
 obtain⟨r1,h2,h⟩:=zC h
 cases h
 exact tF ⟨Tryz.func111,rfl⟩ 3 [] (oD (dT r1.1.sub)<|oC 1 [] (zZu h2) o0),⟨⟨tv,tv,⟨tv,dT _⟩,tv⟩,tv,tv⟩,zB,⟨⟨tv,tv,dT _,tv⟩,tv,tv⟩,zB⟩
def xG(k:Int)(i:Nat)(b:Int):Int:=if i=1∧k≠5 then b+1 else b
mutual
def lfT:Tm->Int->Int->Int->Tm
 | .mk kd n l,b,c,k=>if kd=1 then .mk 1 (if b≤n then(if n-b<c then n-b else n-b+k)+b else n) []else .mk kd n (lfL l kd 0 b c k)
def lfL:List Tm->Int->Nat->Int->Int->Int->List Tm
 | [],_,_,_,_,_=>[]
 |t::l,kd,i,b,c,k=>lfT t (xG kd i b) c k::lfL l kd (i+1) b c k
end
theorem zLS:∀(l:List Tm) (kd:Int) (i:Nat) (b c k:Int),(lfL l kd i b c k).length=l.length
 | [],_,_,_,_,_=>by rw[lfL]
 |t::l,kd,i,b,c,k=>by rw[lfL];exact congrArg (· + 1) (zLS l kd (i+1) b c k)
theorem zAp(n:Int):Evt (fun q=>zFP q n) (.mk 1 n []):=Evt.mk fun _=>rfl
theorem gP(n:Int):Evt (fun q=>zEz q n) (.mk 2 n []):=Evt.mk fun _=>rfl
mutual
theorem zBI:∀(t:Tm) (b c k:Int),yY t=true->0≤b->b+t.high≤1152921504606846976->0≤c->c≤1048576->0≤k->k≤1048576->Evt (fun q=>rE q t b c k) (lfT t b c k)
 | .mk kd n l,b,c,k,hg,hb,hb2,hc,hc2,hk,hk2=>by
  refine Evt.succ ?_
  simp only[rE]
  have hh:=vB hg
  have hn:=lU hh.1
  rw[Tm.high]at hb2
  rw[lfT]
  by_cases h1:kd=1
  ·rw[if_pos h1]
   refine Evt.ifT (by simpa[Tm.k]using h1) ?_
   simp only[Tm.n]
   by_cases h2:n≥b
   ·refine Evt.ifT (by simpa using h2) ?_
    rw[if_pos h2,yI (x:=n-b) (by omega) (by omega)]
    refine Evt.bind (a:=if n-b<c then n-b else n-b+k) ?_ ?_
    ·refine Evt.mk fun q=>?_
     unfold cZ
     by_cases h3:n-b<c
     ·simp[h3]
     ·simp[h3];exact yI (by omega) (by omega)
    ·rw[yI (by split<;>omega) (by split<;>omega)]
     exact(zAp _).bind Evt.ret
   ·refine Evt.ifF (by simpa using h2) ?_
    rw[if_neg h2]
    exact(zAp _).bind Evt.ret
  ·rw[if_neg h1]
   refine Evt.ifF (by simpa[Tm.k]using h1) ?_
   exact zHQ l (.mk kd n l) 0 b c k [] rfl hh.2 (by have:=hn.2.2.2.2;exact this) hb (by omega) hc hc2 hk hk2 (by simp)
theorem zHQ:∀(l:List Tm) (p:Tm) (v:Nat) (b c k:Int) (acc:List Tm),p.sub.drop v=l->wH l=true->p.sub.length≤2->0≤b->b+1+wT l≤1152921504606846976->0≤c->c≤1048576->0≤k->k≤1048576->acc.length≤v ->
  Evt (fun q=>vO q p b c k (v:Int) acc) (.mk p.k p.n (acc++lfL l p.k v b c k))
 | [],p,v,b,c,k,acc,hd,hg,hl,hb,hb2,hc,hc2,hk,hk2,ha=>by
  refine Evt.succ ?_
  simp only[vO]
  exact Evt.ifF (yC hd) (Evt.ret.eq (by rw[lfL];simp))
 |t::l,p,v,b,c,k,acc,hd,hg,hl,hb,hb2,hc,hc2,hk,hk2,ha=>by
  have hlt:=yE hd
  have hgc:=xX hg
  rw[wT]at hb2
  refine Evt.succ ?_
  simp only[vO]
  refine Evt.ifT (yB hd) (Evt.pure (zX hd) ?_)
  have next:∀(x:Tm),Evt (fun q=>yT 40 acc [x]>>=fun l16=>vO q p b c k (w64 ((v:Int)+1)) l16) (.mk p.k p.n (acc++x::lfL l p.k (v+1) b c k)):=fun x=>by
   refine Evt.pure (yG (by simp<;>omega)) ?_
   rw[zU v (by omega)]
   refine(zHQ l p (v+1) b c k (acc++[x]) (zS hd) hgc.2 hl hb (by omega) hc hc2 hk hk2 (by simp<;>omega)).eq (by simp)
  rw[lfL]
  by_cases h1:v=1
  ·subst h1
   refine Evt.ifT rfl ?_
   by_cases h5:p.k=5
   ·refine Evt.ifF (by simp[h5]) ?_
    have e:xG p.k 1 b=b:=by unfold xG;simp[h5]
    rw[e]
    exact(zBI t b c k hgc.1 hb (by omega) hc hc2 hk hk2).bind (next _)
   ·refine Evt.ifT (by simp[h5]) ?_
    have e:xG p.k 1 b=b+1:=by unfold xG;simp[h5]
    rw[e,yI (x:=b+1) (by omega) (by omega)]
    exact(zBI t (b+1) c k hgc.1 (by omega) (by omega) hc hc2 hk hk2).bind (next _)
  ·refine Evt.ifF (by simp<;>omega) ?_
   have e:xG p.k v b=b:=by unfold xG;simp[h1]
   rw[e]
   exact(zBI t b c k hgc.1 hb (by omega) hc hc2 hk hk2).bind (next _)
end
mutual
theorem zKp:∀(t:Tm) (b c k:Int),t.Ok->(lfT t b c k).Ok
 | .mk kd n l,b,c,k,h=>by
  rw[lfT]
  split
  ·rw[Tm.Ok,OkL];simp
  ·rw[Tm.Ok]at h ⊢
   rw[zLS]
   exact⟨h.1,zQd l kd 0 b c k h.2⟩
theorem zQd:∀(l:List Tm) (kd:Int) (i:Nat) (b c k:Int),OkL l->OkL (lfL l kd i b c k)
 | [],_,_,_,_,_,_=>by rw[lfL,OkL];trivial
 |t::l,kd,i,b,c,k,h=>by
  rw[OkL]at h
  rw[lfL,OkL]
  exact⟨zKp t _ c k h.1,zQd l kd (i+1) b c k h.2⟩
end
def fR(n:Int):Bool:=decide (0≤n)&&decide (n≤1048576)
theorem zLT(n:Int):Evt (fun q=>zNP q n) (fR n):=by
 refine Evt.mk fun q=>?_
 unfold zNP fR
 by_cases h:n≥0
 ·rw[zTE (decide_eq_true h)];simp[show 0≤n from h]
 ·rw[zPT (decide_eq_false h)];simp[show ¬0≤n from h]
def zT:Tm:=.mk 0 0 []
def vP(t:Tm)(k c:Int):Tm×Int:=
 if zM t=true∧fR k=true∧fR c=true then(if zM (lfT t 0 c k)=true then(lfT t 0 c k,0)else(zT,2))else(zT,5)
theorem zLU(t:Tm)(k c:Int)(ho:t.Ok):Evt (fun q=>zNR q t k c) (vP t k c):=by
 simp only[zNR]
 refine(yQ t ho).bind ?_
 unfold vP
 by_cases h1:zM t=true
 ·refine Evt.ifT h1 ((zLT k).bind ?_)
  by_cases h2:fR k=true
  ·refine Evt.ifT h2 ((zLT c).bind ?_)
   by_cases h3:fR c=true
   ·rw[if_pos ⟨h1,h2,h3⟩]
    have hs:=zQ h1
    have h2':=h2;have h3':=h3
    unfold fR at h2' h3'
    simp only[Bool.and_eq_true,decide_eq_true_eq]at h2' h3'
    refine Evt.ifT h3 ((zBI t 0 c k hs.2.2 (by omega) (by omega) h3'.1 h3'.2 h2'.1 h2'.2).bind ((yQ _ (zKp t 0 c k ho)).bind ?_))
    by_cases h4:zM (lfT t 0 c k)=true
    ·rw[if_pos h4,if_pos h4];exact Evt.ret
    ·rw[if_neg h4,if_neg h4];exact Evt.ret
   ·rw[if_neg (fun h=>h3 h.2.2)];exact Evt.ifF (by simpa using h3) Evt.ret
  ·rw[if_neg (fun h=>h2 h.2.1)];exact Evt.ifF (by simpa using h2) Evt.ret
 ·rw[if_neg (fun h=>h1 h.1)];exact Evt.ifF (by simpa using h1) Evt.ret
theorem mK(t:Tm)(k c:Int)(ho:t.Ok):(vP t k c).1.Ok:=by
 have hz:zT.Ok:=by unfold zT;rw[Tm.Ok,OkL];simp
 unfold vP
 split
 ·split
  ·exact zKp t 0 c k ho
  ·exact hz
 ·exact hz
theorem zLV(t:Tm)(k:Int)(ho:t.Ok):Evt (fun q=>zHP q t k) (vP t k 0):=by
 simp only[zHP]
 exact(zLU t k 0 ho).bind Evt.ret
def raT(a:Tm)(by' left:Int)(long:Bool):Tm×Int×Bool:=
 if left-szT a 0<0 then(.mk 2 0 [],left-szT a 0,true)
 else if (vP a by' 0).2≠0 then(.mk 2 0 [],left-szT a 0,true)else((vP a by' 0).1,left-szT a 0,long)
mutual
def sbT(ls:List Tm):Tm->Int->Int->Bool->Tm×Int×Bool
 | .mk kd n l,b,left,long=>
  if long=true then(.mk 2 0 [],left,long)
  else if kd=1∧b≤n then
   (if h:(n-b).toNat<ls.length then raT (ls[(n-b).toNat]) b left long else(.mk 1 (n-ls.length) [],left,long))
  else
   let r:=sbL ls l kd 0 b (left-1) (decide (left-1<0))
   (.mk kd n r.1,r.2.1,r.2.2)
def sbL(ls:List Tm):List Tm->Int->Nat->Int->Int->Bool->List Tm×Int×Bool
 | [],_,_,_,left,long=>([],left,long)
 |t::l,kd,i,b,left,long=>
  let x:=sbT ls t (xG kd i b) left long
  let r:=sbL ls l kd (i+1) b x.2.1 x.2.2
  (x.1::r.1,r.2.1,r.2.2)
end
def pW(left:Int)(long:Bool):Prop:=-8193≤left∧left≤8192∧(long=false->0≤left)
theorem zQc{a:Tm}{by' left:Int}(h:pW left false):pW (raT a by' left false).2.1 (raT a by' left false).2.2:=by
 have:=zHf a 0 (by omega) (by omega)
 have h0:=h.2.2 rfl
 have h1:=h.2.1
 unfold raT pW
 split
 ·exact⟨by simp only;omega,by simp only;omega,fun h=>by cases h⟩
 ·split
  ·exact⟨by simp only;omega,by simp only;omega,fun h=>by cases h⟩
  ·exact⟨by simp only;omega,by simp only;omega,fun _=>by simp only;omega⟩
def zQb(qq:Nat)(p0:Tm)(p1:Int):Option Int:=
 if p0.k != 1 then
 some (-1)
 else
 if decide (p0.n<p1)then
 some (-1)
 else
 some (w64 (p0.n-p1))
theorem zWW:Qf 221 Tryz.f221:=⟨Tryz.func221,rfl⟩
theorem yAL{qq p0 p1 r}(h:zQb qq p0 p1=some r):Ct 221 [] [tmA p0,ai p1] (ai r) [] 0:=⟨by
 unfold zQb at h
 obtain⟨h1,h⟩|⟨h1,h⟩:=spl h
 cases h
 exact tF zWW 0 [] (oB 1 h1 o0)
 have k:=oB 1 h1 o0
 obtain⟨h2,h⟩|⟨h2,h⟩:=spl h
 cases h
 exact tF zWW 0 [] (oB 1 h2 k)
 cases h
 exact tF zWW 2 [] (oB 1 h2 k),⟨⟨tv,tv,⟨tv,dT _⟩,tv⟩,tv,tv⟩,zB,tv,zB⟩
def bB(qq:Nat)(q0:Int)(q1:Bool)(q2:List Tm)(p1:Tm)(p2:Int):Option (Tm×Int×Bool):=
 zKw qq p1>>=fun r1=>
 if decide ((w64 (q0-r1))<0)then
 zEz qq 0>>=fun r4=>
 some (r4,(w64 (q0-r1)),true)
 else
 zHP qq p1 p2>>=fun r6=>
 if r6.2 != 0 then
 zEz qq 0>>=fun r9=>
 some (r9,(w64 (q0-r1)),true)
 else
 some (r6.1,(w64 (q0-r1)),q1)
theorem zFQ:Qf 82 Tryz.f82:=⟨Tryz.func82,rfl⟩
theorem zTZ{qq q0 q1 q2 p1 p2 r}(h:bB qq q0 q1 q2 p1 p2=some r):Ct 82 [.cells [ai q0,ab q1,.clo 220 [] [.mp 1 0,.mp 2 0]],.cells [slv zH q2 .no],.cells [.mp 0 0]] [.mp 0 0,tmA p1,ai p2] (tmA r.1) [.cells [ai r.2.1,ab r.2.2,.clo 220 [] [.mp 1 0,.mp 2 0]],.cells [slv zH q2 .no],.cells [.mp 0 0]] 0:=⟨by
 unfold bB at h
 obtain⟨r1,h2,h⟩:=zC h
 have k:=oC 1 [] (zWS h2)<|oCl 0 o0
 obtain⟨h3,h⟩|⟨h3,h⟩:=spl h
 obtain⟨r4,h5,h⟩:=zC h
 cases h
 exact tF zFQ 1 [0,1,2] (oD (dT r4.sub)<|oD (dT q2)<|oC 1 [] (zKq h5)<|oB 3 h3 k)
 obtain⟨r6,h7,h⟩:=zC h
 have k:=oC 1 [] (zTY h7)<|oB 3 h3 k
 obtain⟨h8,h⟩|⟨h8,h⟩:=spl h
 obtain⟨r9,h10,h⟩:=zC h
 cases h
 exact tF zFQ 1 [0,1,2] (oD (dT r9.sub)<|oD (dT q2)<|oC 1 [] (zKq h10)<|oB 3 h8 k)
 cases h
 exact tF zFQ 2 [0,1,2] (oD (dT r6.1.sub)<|oD (dT q2)<|oB 3 h8 k),⟨(lz rfl),⟨tv,tv,⟨tv,dT _⟩,tv⟩,tv,tv⟩,(zA ⟨tv,tv,⟨tv,⟨(lz rfl),(lz rfl),tv⟩⟩,tv⟩ (zA ⟨⟨tv,dT _⟩,tv⟩ (zA ⟨(lz rfl),tv⟩ zB))),⟨tv,tv,dT _,tv⟩,(zA ⟨tv,tv,⟨tv,⟨(lz rfl),(lz rfl),tv⟩⟩,tv⟩ (zA ⟨dT _,tv⟩ (zA ⟨(lz rfl),tv⟩ zB)))⟩
def pX(qq:Nat)(p0:Tm)(p1:Int)(q2:List Tm)(q3:Int)(q4:Bool):Option (Tm×Bool×Int×Bool):=
 zQb qq p0 p1>>=fun r1=>
 if decide (r1<0)then
 some ((Tm.mk 0 0 []),false,q3,q4)
 else
 if decide (r1<(q2.length:Int))then
 zR q2 r1>>=fun x5=>
 bB qq q3 q4 q2 x5 p1>>=fun r7=>
 some (r7.1,true,r7.2.1,r7.2.2)
 else
 zFP qq (w64 (p0.n-(q2.length:Int)))>>=fun r9=>
 some (r9,true,q3,q4)
theorem zCP:Qf 220 Tryz.f220:=⟨Tryz.func220,rfl⟩
theorem zQa{qq p0 p1 q2 q3 q4 r}(h:pX qq p0 p1 q2 q3 q4=some r):Ct 220 [.cells [slv zH q2 .no],.cells [.mp 2 0],.cells [ai q3,ab q4,.clo 220 [] [.mp 0 0,.mp 1 0]]] [tmA p0,ai p1,.mp 0 0,.mp 1 0] (.tup [tmA r.1,ab r.2.1]) [.cells [slv zH q2 .no],.cells [.mp 2 0],.cells [ai r.2.2.1,ab r.2.2.2,.clo 220 [] [.mp 0 0,.mp 1 0]]] 0:=⟨by
 unfold pX at h
 obtain⟨r1,h2,h⟩:=zC h
 have k:=oC 1 [] (yAL h2) o0
 obtain⟨h3,h⟩|⟨h3,h⟩:=spl h
 cases h
 exact tF zCP 1 [0,1,2] (oD (dT ([]:List Tm))<|oD (dT q2)<|oB 0 h3 k)
 have k:=oB 0 h3 k
 obtain⟨h4,h⟩|⟨h4,h⟩:=spl h
 obtain⟨x5,h6,h⟩:=zC h
 obtain⟨r7,h8,h⟩:=zC h
 cases h
 exact tF zCP 1 [0,1,2] (oD (dT r7.1.sub)<|oD (dT q2)<|oC 1 [2,0,1] (zTZ h8)<|oA 2 (xA (o:=.no) h6)<|oB 2 h4 k)
 obtain⟨r9,h10,h⟩:=zC h
 cases h
 exact tF zCP 1 [0,1,2] (oD (dT r9.sub)<|oD (dT q2)<|oC 4 [] (zNQ h10)<|oB 2 h4 k),⟨⟨tv,tv,⟨tv,dT _⟩,tv⟩,tv,(lz rfl),(lz rfl),tv⟩,(zA ⟨⟨tv,dT _⟩,tv⟩ (zA ⟨(lz rfl),tv⟩ (zA ⟨tv,tv,⟨tv,⟨(lz rfl),(lz rfl),tv⟩⟩,tv⟩ zB))),⟨⟨tv,tv,dT _,tv⟩,tv,tv⟩,(zA ⟨dT _,tv⟩ (zA ⟨(lz rfl),tv⟩ (zA ⟨tv,tv,⟨tv,⟨(lz rfl),(lz rfl),tv⟩⟩,tv⟩ zB)))⟩
mutual
def rF:Nat->Int->Bool->List Tm->Tm->Int->Option (Tm×Int×Bool)
 |0,_,_,_,_,_=>none
 |qq+1,q0,q1,q2,p1,p2=>
 if q1 then
 zEz qq 0>>=fun r2=>
 some (r2,q0,q1)
 else
 pX qq p1 p2 q2 q0 q1>>=fun r4=>
 if r4.2.1 then
 some (r4.1,r4.2.2.1,r4.2.2.2)
 else
 if decide ((w64 (r4.2.2.1-1))<0)then
 wJ qq q2 p1 p2 0 (w64 (r4.2.2.1-1)) true []
 else
 wJ qq q2 p1 p2 0 (w64 (r4.2.2.1-1)) r4.2.2.2 []
def wJ:Nat->List Tm->Tm->Int->Int->Int->Bool->List Tm->Option (Tm×Int×Bool)
 |0,_,_,_,_,_,_,_=>none
 |qq+1,q2,p1,p2,v53,zW,wI,bC=>
 if decide (v53<(p1.sub.length:Int))then
 zR p1.sub v53>>=fun x9=>
 if v53==1 then
 if p1.k != 5 then
 rF qq zW wI q2 x9 (w64 (p2+1))>>=fun r13=>
 yT 40 bC [r13.1]>>=fun l15=>
 wJ qq q2 p1 p2 (w64 (v53+1)) r13.2.1 r13.2.2 l15
 else
 rF qq zW wI q2 x9 p2>>=fun r17=>
 yT 40 bC [r17.1]>>=fun l19=>
 wJ qq q2 p1 p2 (w64 (v53+1)) r17.2.1 r17.2.2 l19
 else
 rF qq zW wI q2 x9 p2>>=fun r21=>
 yT 40 bC [r21.1]>>=fun l23=>
 wJ qq q2 p1 p2 (w64 (v53+1)) r21.2.1 r21.2.2 l23
 else
 some ((Tm.mk p1.k p1.n bC),zW,wI)
end
abbrev bD (q0:Int) (q1:Bool) (q2:List Tm) (p1:Tm) (p2:Int) (r:Tm×Int×Bool) (C:Cf):Prop:=C 109 [.cells [ai q0,ab q1,.clo 220 [] [.mp 1 0,.mp 2 0]],.cells [slv zH q2 .no],.cells [.mp 0 0]] [.mp 0 0,tmA p1,ai p2] (tmA r.1) [.cells [ai r.2.1,ab r.2.2,.clo 220 [] [.mp 1 0,.mp 2 0]],.cells [slv zH q2 .no],.cells [.mp 0 0]] 0
theorem bE:Qf 109 Tryz.f109:=⟨Tryz.func109,rfl⟩
theorem bF{q0 q1 q2 p1 p2 r}(h:bD q0 q1 q2 p1 p2 r Ci):bD q0 q1 q2 p1 p2 r Ct:=⟨h,⟨(lz rfl),⟨tv,tv,⟨tv,dT _⟩,tv⟩,tv,tv⟩,(zA ⟨tv,tv,⟨tv,⟨(lz rfl),(lz rfl),tv⟩⟩,tv⟩ (zA ⟨⟨tv,dT _⟩,tv⟩ (zA ⟨(lz rfl),tv⟩ zB))),⟨tv,tv,dT _,tv⟩,(zA ⟨tv,tv,⟨tv,⟨(lz rfl),(lz rfl),tv⟩⟩,tv⟩ (zA ⟨dT _,tv⟩ (zA ⟨(lz rfl),tv⟩ zB)))⟩
theorem fF:∀qq:Nat,(∀q0 q1 q2 p1 p2 r,rF qq q0 q1 q2 p1 p2=some r->bD q0 q1 q2 p1 p2 r Ct)∧(∀q2 p1 p2 v53 zW wI bC r,wJ qq q2 p1 p2 v53 zW wI bC=some r->(∀j,dL 3 (inn (inn (rgt (lft (rgt (rgt (rgt (rgt (rgt (bod Tryz.f109)))))))))) (sp j 79 0 [(0,.mp 0 0),(2,ai p2),(4,.mp 3 0),(6,.mp 4 0),(9,.mp 5 0),(51,slv zH p1.sub .no),(52,ai (p1.sub.length:Int)),(53,ai v53)]) (⟨[(0,.cells [ai zW,ab wI,.clo 220 [] [.mp 1 0,.mp 2 0]]),(1,.cells [slv zH q2 .no]),(2,.cells [.mp 0 0]),(3,.cells [ai p1.k,ai p1.n,slv zH p1.sub .no]),(4,.cells [ai 0,ai 0,slv zH ([]:List Tm) .nl]),(5,.cells [ai p1.k,ai p1.n,slv zH bC (.st 0 3)])],6,[0],1,[]⟩) (fQ 3 (nQ 3 Tryz.f109 (tmA r.1) [.cells [ai r.2.1,ab r.2.2,.clo 220 [] [.mp 1 0,.mp 2 0]],.cells [slv zH q2 .no],.cells [.mp 0 0]] 0) [.blk 0,.seq (rgt (rgt (rgt (rgt (rgt (rgt (bod Tryz.f109)))))))]))):=by
 intro qq
 induction qq with
 |zero=>
  exact⟨fun _ _ _ _ _ _ h=>nn h,fun _ _ _ _ _ _ _ _ h=>nn h⟩
 |succ qq ih=>
  obtain⟨zAo,rG⟩:=ih
  refine⟨?_,?_⟩
  intro q0 q1 q2 p1 p2 r h
  rw[rF]at h
  have z {os ob} (k:Oz os ob):=oD (dT p1.sub)<|oD (dT ([]:List Tm))<|oD (dT ([]:List Tm))<|oD (dT p1.sub)<|oD (dT q2)<|k
  obtain⟨h1,h⟩|⟨h1,h⟩:=spl h
  obtain⟨r2,h3,h⟩:=zC h
  cases h
  exact bF (tF bE 1 [0,1,2] (oD (dT r2.sub)<|oD (dT q2)<|oC 0 [] (zKq h3)<|oB 0 h1 o0))
  obtain⟨r4,h5,h⟩:=zC h
  have k:=oC 2 [1,2,0] (zQa h5)<|oB 0 h1 o0
  obtain⟨h6,h⟩|⟨h6,h⟩:=spl h
  cases h
  exact bF (tF bE 3 [0,1,2] (oD (dT r4.1.sub)<|oD (dT q2)<|oB 1 h6 k))
  have k:=oB 1 h6 k
  obtain⟨h7,h⟩|⟨h7,h⟩:=spl h
  exact bF (tH bE 6 [(some 6,2,3)] [0,1,2,3,4,6] [0] [0,2,4,6,9,51,52,53] (z<|oB 5 h7 k) (rG _ _ _ _ _ _ _ _ h))
  exact bF (tH bE 5 [(some 6,2,3)] [0,1,2,3,4,6] [0] [0,2,4,6,9,51,52,53] (z<|oB 5 h7 k) (rG _ _ _ _ _ _ _ _ h))
  intro q2 p1 p2 v53 zW wI bC r h
  rw[wJ]at h
  have z {os ob} (k:Oz os ob):=oD (dT ([]:List Tm))<|oD (dT p1.sub)<|oD (dT q2)<|k
  obtain⟨h8,h⟩|⟨h8,h⟩:=spl h
  obtain⟨x9,h10,h⟩:=zC h
  have k:=oA 0 (xA (o:=.no) h10)<|oB 0 h8 o0
  obtain⟨h11,h⟩|⟨h11,h⟩:=spl h
  have k:=oB 2 h11 k
  obtain⟨h12,h⟩|⟨h12,h⟩:=spl h
  obtain⟨r13,h14,h⟩:=zC h
  obtain⟨l15,h16,h⟩:=zC h
  exact fun j=>lH 2 [] [0,1,2,3,4,5] [1] [0,2,4,6,9,51,52,53] (oD (dT p1.sub)<|oD (dT l15)<|z<|oP 0 (vA h16 (by simp))<|oS 0 (yW xE [r13.1])<|oC 1 [0,1,2] (zAo _ _ _ _ _ _ h14)<|oCl 1<|oB 1 h12 k) (rG _ _ _ _ _ _ _ _ h)
  obtain⟨r17,h18,h⟩:=zC h
  obtain⟨l19,h20,h⟩:=zC h
  exact fun j=>lH 2 [] [0,1,2,3,4,5] [1] [0,2,4,6,9,51,52,53] (oD (dT p1.sub)<|oD (dT l19)<|z<|oP 0 (vA h20 (by simp))<|oS 0 (yW xE [r17.1])<|oC 1 [0,1,2] (zAo _ _ _ _ _ _ h18)<|oCl 0<|oB 1 h12 k) (rG _ _ _ _ _ _ _ _ h)
  obtain⟨r21,h22,h⟩:=zC h
  obtain⟨l23,h24,h⟩:=zC h
  exact fun j=>lH 2 [] [0,1,2,3,4,5] [1] [0,2,4,6,9,51,52,53] (oD (dT p1.sub)<|oD (dT l23)<|z<|oP 0 (vA h24 (by simp))<|oS 0 (yW xE [r21.1])<|oC 1 [0,1,2] (zAo _ _ _ _ _ _ h22)<|oCl 0<|oB 2 h11 k) (rG _ _ _ _ _ _ _ _ h)
  cases h
  exact fun j=>lF 2 [0,1,2] (oD (dT bC)<|oD (dT q2)<|oB 0 h8 o0)
theorem zQA{qq q0 q1 q2 p1 p2 r}(h:rF qq q0 q1 q2 p1 p2=some r):bD q0 q1 q2 p1 p2 r Ct:=(fF _).1 _ _ _ _ _ _ h
def zCQ(qq:Nat)(q0:Int)(q1:Bool)(q2:List Tm):Option Unit:=
 some ()
theorem zQB{qq q0 q1 q2 r}(h:zCQ qq q0 q1 q2=some r):Ct 219 [.cells [ai q0,ab q1,.val .nilFunc],.cells [slv zH q2 .no]] [.mp 0 0,.mp 1 0] (.clo 220 [] [.mp 1 0,.mp 2 0]) [.cells [ai q0,ab q1,.val .nilFunc],.cells [slv zH q2 .no],.cells [.mp 0 0]] 0:=⟨by
 unfold zCQ at h
 cases h
 exact tF ⟨Tryz.func219,rfl⟩ 0 [0,1,2] (oD (dT q2) o0),⟨(lz rfl),(lz rfl),tv⟩,(zA ⟨tv,tv,tv,tv⟩ (zA ⟨⟨tv,dT _⟩,tv⟩ zB)),⟨tv,⟨(lz rfl),(lz rfl),tv⟩⟩,(zA ⟨tv,tv,tv,tv⟩ (zA ⟨dT _,tv⟩ (zA ⟨(lz rfl),tv⟩ zB)))⟩
def bG(qq:Nat)(p0:Tm)(q1:List Tm):Option (Tm×Int):=
 zCQ qq 8192 false q1>>=fun r1=>
 rF qq 8192 false q1 p0 0>>=fun r3=>
 if r3.2.2 then
 some ((Tm.mk 0 0 []),2)
 else
 e52 qq r3.1>>=fun r6=>
 if r6 then
 some (r3.1,0)
 else
 some ((Tm.mk 0 0 []),2)
theorem zFR:Qf 79 Tryz.f79:=⟨Tryz.func79,rfl⟩
theorem zUz{qq p0 q1 r}(h:bG qq p0 q1=some r):Ct 79 [.cells [slv zH q1 .no]] [tmA p0,.clo 219 [] [.mp 0 0]] (.tup [tmA r.1,ai r.2]) [.cells [slv zH q1 .no]] 0:=⟨by
 unfold bG at h
 obtain⟨r1,h2,h⟩:=zC h
 obtain⟨r3,h4,h⟩:=zC h
 have k:=oC 2 [3,0,4] (zQA h4)<|oC 0 [3,0] (zQB h2) o0
 obtain⟨h5,h⟩|⟨h5,h⟩:=spl h
 cases h
 exact tF zFR 1 [0] (oD (dT ([]:List Tm))<|oD (dT q1)<|oB 1 h5 k)
 obtain⟨r6,h7,h⟩:=zC h
 have k:=oB 1 h5 k
 obtain⟨h8,h⟩|⟨h8,h⟩:=spl h
 cases h
 exact tF zFR 3 [0] (oD (dT r3.1.sub)<|oD (dT q1)<|oK 1 [] h8 (c52 h7) k)
 cases h
 exact tF zFR 2 [0] (oD (dT ([]:List Tm))<|oD (dT q1)<|oK 1 [] h8 (c52 h7) k),⟨⟨tv,tv,⟨tv,dT _⟩,tv⟩,⟨tv,⟨(lz rfl),tv⟩⟩,tv⟩,(zA ⟨⟨tv,dT _⟩,tv⟩ zB),⟨⟨tv,tv,dT _,tv⟩,tv,tv⟩,(zA ⟨dT _,tv⟩ zB)⟩
def lX:Nat->Tm->List Tm->Int->Option (Tm×Int)
 |0,_,_,_=>none
 |qq+1,p0,p1,v14=>
 if decide (v14<(p1.length:Int))then
 zR p1 v14>>=fun x5=>
 e52 qq x5>>=fun r7=>
 if r7 then
 lX qq p0 p1 (w64 (v14+1))
 else
 some ((Tm.mk 0 0 []),5)
 else
 bG qq p0 p1>>=fun r10=>
 some (r10.1,r10.2)
def zNS(qq:Nat)(p0:Tm)(p1:List Tm):Option (Tm×Int):=
 e52 qq p0>>=fun r1=>
 if r1 then
 lX qq p0 p1 0
 else
 some ((Tm.mk 0 0 []),5)
theorem zZt:Qf 201 Tryz.f201:=⟨Tryz.func201,rfl⟩
theorem zUy:∀qq:Nat,(∀p0 p1 v14 r,lX qq p0 p1 v14=some r->(∀j,dL 0 (inn (inn (rgt (lft (rgt (rgt (bod Tryz.f201))))))) (sp j 28 0 [(2,.mp 0 0),(3,.mp 1 0),(4,.mp 2 0),(12,slv zH p1 .no),(13,ai (p1.length:Int)),(14,ai v14)]) (⟨[(0,.cells [ai p0.k,ai p0.n,slv zH p0.sub .no]),(1,.cells [slv zH p1 .no]),(2,.cells [ai 0,ai 0,slv zH ([]:List Tm) .nl])],3,[],0,[]⟩) (fQ 0 (nQ 0 Tryz.f201 (.tup [tmA r.1,ai r.2]) [] 0) [.blk 0,.seq (rgt (rgt (rgt (bod Tryz.f201))))]))):=by
 intro qq
 induction qq with
 |zero=>
  exact fun _ _ _ _ h=>nn h
 |succ qq ih=>
  intro p0 p1 v14 r h
  rw[lX]at h
  obtain⟨h4,h⟩|⟨h4,h⟩:=spl h
  obtain⟨x5,h6,h⟩:=zC h
  obtain⟨r7,h8,h⟩:=zC h
  have k:=oA 0 (xA (o:=.no) h6)<|oB 0 h4 o0
  obtain⟨h9,h⟩|⟨h9,h⟩:=spl h
  exact fun j=>lH 2 [] [0,1,2] [] [2,3,4,12,13,14] (oD (dT p1)<|oD (dT ([]:List Tm))<|oD (dT p1)<|oD (dT p0.sub)<|oK 3 [] h9 (c52 h8) k) (ih _ _ _ _ h)
  cases h
  exact fun j=>lF 2 [] (oD (dT ([]:List Tm))<|oK 3 [] h9 (c52 h8) k)
  obtain⟨r10,h11,h⟩:=zC h
  cases h
  exact fun j=>lF 3 [] (oD (dT r10.1.sub)<|oC 1 [1] (zUz h11)<|oB 0 h4 o0)
theorem zZs{qq p0 p1 r}(h:zNS qq p0 p1=some r):Ct 201 [] [tmA p0,slv zH p1 .no] (.tup [tmA r.1,ai r.2]) [] 0:=⟨by
 unfold zNS at h
 obtain⟨r1,h2,h⟩:=zC h
 obtain⟨h3,h⟩|⟨h3,h⟩:=spl h
 exact tH zZt 3 [] [0,1,2] [] [2,3,4,12,13,14] (oD (dT p1)<|oD (dT ([]:List Tm))<|oD (dT p1)<|oD (dT p0.sub)<|oK 1 [] h3 (c52 h2) o0) (zUy _ _ _ _ _ h)
 cases h
 exact tF zZt 2 [] (oD (dT ([]:List Tm))<|oK 1 [] h3 (c52 h2) o0),⟨⟨tv,tv,⟨tv,dT _⟩,tv⟩,⟨tv,dT _⟩,tv⟩,zB,⟨⟨tv,tv,dT _,tv⟩,tv,tv⟩,zB⟩
def zQC(qq:Nat)(p0 p1:Tm):Option (Tm×Int):=
 zNS qq p0 [p1]>>=fun r1=>
 some (r1.1,r1.2)
theorem yAM{qq p0 p1 r}(h:zQC qq p0 p1=some r):Ct 208 [] [tmA p0,tmA p1] (.tup [tmA r.1,ai r.2]) [] 0:=⟨by
 unfold zQC at h
 obtain⟨r1,h2,h⟩:=zC h
 cases h
 exact tF ⟨Tryz.func208,rfl⟩ 3 [] (oD (dT r1.1.sub)<|oC 0 [] (zZs h2)<|oS 2 (yW xE [p1]) o0),⟨⟨tv,tv,⟨tv,dT _⟩,tv⟩,⟨tv,tv,⟨tv,dT _⟩,tv⟩,tv⟩,zB,⟨⟨tv,tv,dT _,tv⟩,tv,tv⟩,zB⟩
theorem zLW:zT.Ok:=by unfold zT;rw[Tm.Ok,OkL];simp
theorem xS(k n:Int):(Tm.mk k n []).Ok:=by rw[Tm.Ok,OkL];simp
theorem zNT(ls:List Tm)(a:Tm)(b left:Int)(long:Bool)(ho:a.Ok)(hl:pW left long):Evt (fun q=>bB q left long ls a b) (raT a b left long):=by
 simp only[bB]
 have hs:=zHf a 0 (by omega) (by omega)
 have h1:=hl.1
 have h2:=hl.2.1
 refine(zFK a ho).bind ?_
 rw[yI (x:=left-szT a 0) (by omega) (by omega)]
 unfold raT
 by_cases h:left-szT a 0<0
 ·rw[if_pos h];exact Evt.ifT (decide_eq_true h) ((gP 0).bind Evt.ret)
 ·rw[if_neg h]
  refine Evt.ifF (decide_eq_false h) ((zLV a b ho).bind ?_)
  by_cases h3:(vP a b 0).2≠0
  ·rw[if_pos h3];exact Evt.ifT (by simpa using h3) ((gP 0).bind Evt.ret)
  ·rw[if_neg h3];exact Evt.ifF (by simpa using h3) Evt.ret
mutual
theorem zBJ(ls:List Tm):∀(t:Tm) (b left:Int) (long:Bool),pW left long->pW (sbT ls t b left long).2.1 (sbT ls t b left long).2.2
 | .mk kd n l,b,left,long,h=>by
  rw[sbT]
  cases long with
  |true=>simpa using h
  |false=>
   rw[if_neg (by simp)]
   split
   ·split
    ·exact zQc h
    ·exact h
   ·have h0:=h.2.2 rfl
    have h1:=h.2.1
    refine zHR ls l kd 0 b _ _ ⟨by omega,by omega,fun h2=>?_⟩
    simp at h2;omega
theorem zHR(ls:List Tm):∀(l:List Tm) (kd:Int) (i:Nat) (b left:Int) (long:Bool),pW left long->pW (sbL ls l kd i b left long).2.1 (sbL ls l kd i b left long).2.2
 | [],kd,i,b,left,long,h=>by rw[sbL];exact h
 |t::l,kd,i,b,left,long,h=>by
  rw[sbL]
  exact zHR ls l kd (i+1) b _ _ (zBJ ls t _ left long h)
end
theorem zLX(ls:List Tm):∀(l:List Tm) (kd:Int) (i:Nat) (b left:Int) (long:Bool),(sbL ls l kd i b left long).1.length=l.length
 | [],_,_,_,_,_=>by rw[sbL]
 |t::l,kd,i,b,left,long=>by rw[sbL];exact congrArg (· + 1) (zLX ls l kd (i+1) b _ _)
theorem zWX(a:Tm)(b left:Int)(long:Bool)(h:a.Ok):(raT a b left long).1.Ok:=by
 unfold raT
 split
 ·exact xS _ _
 ·split
  ·exact xS _ _
  ·exact mK a b 0 h
mutual
theorem zKo(ls:List Tm)(hls:∀a∈ls,a.Ok):∀(t:Tm) (b left:Int) (long:Bool),t.Ok->(sbT ls t b left long).1.Ok
 | .mk kd n l,b,left,long,h=>by
  rw[sbT]
  split
  ·exact xS _ _
  ·split
   ·split
    ·exact zWX _ _ _ _ (hls _ (List.getElem_mem _))
    ·exact xS _ _
   ·rw[Tm.Ok]at h ⊢
    rw[zLX]
    exact⟨h.1,zQD ls hls l kd 0 b _ _ h.2⟩
theorem zQD(ls:List Tm)(hls:∀a∈ls,a.Ok):∀(l:List Tm) (kd:Int) (i:Nat) (b left:Int) (long:Bool),OkL l->OkL (sbL ls l kd i b left long).1
 | [],_,_,_,_,_,_=>by rw[sbL,OkL];trivial
 |t::l,kd,i,b,left,long,h=>by
  rw[OkL]at h
  rw[sbL,OkL]
  exact⟨zKo ls hls t _ _ _ h.1,zQD ls hls l kd (i+1) b _ _ h.2⟩
end
mutual
theorem zLY(ls:List Tm)(hls:∀a∈ls,a.Ok)(hlen:ls.length≤1152921504606846976):∀(t:Tm) (b left:Int) (long:Bool),yY t=true->0≤b->b+t.high≤1152921504606846976->pW left long->Evt (fun q=>rF q left long ls t b) (sbT ls t b left long)
 | .mk kd n l,b,left,long,hg,hb,hb2,hl=>by
  refine Evt.succ ?_
  simp only[rF]
  have hh:=vB hg
  have hn:=lU hh.1
  rw[Tm.high]at hb2
  rw[sbT]
  cases long with
  |true=>exact Evt.ifT rfl ((gP 0).bind (Evt.ret.eq (by simp)))
  |false=>
   refine Evt.ifF rfl ?_
   rw[if_neg (by simp)]
   have hloose:Evt (fun q=>zQb q (.mk kd n l) b) (if kd=1∧b≤n then n-b else -1):=by
    refine Evt.mk fun q=>?_
    unfold zQb
    simp only[Tm.k,Tm.n]
    by_cases h1:kd=1
    ·by_cases h2:n<b
     ·simp[h1,h2,show ¬b≤n by omega]
     ·simp[h1,h2,show b≤n by omega]
      exact yI (by omega) (by omega)
    ·simp[h1]
   by_cases h1:kd=1∧b≤n
   ·rw[if_pos h1]at hloose ⊢
    have hleaf:Evt (fun q=>pX q (.mk kd n l) b ls left false) (let r:=(if h:(n-b).toNat<ls.length then raT (ls[(n-b).toNat]) b left false else(.mk 1 (n-ls.length) [],left,false));(r.1,true,r.2.1,r.2.2)):=by
     simp only[pX]
     refine hloose.bind (Evt.ifF (decide_eq_false (by omega)) ?_)
     by_cases h2:(n-b).toNat<ls.length
     ·rw[dif_pos h2]
      refine Evt.ifT (decide_eq_true (by omega)) (Evt.pure (a:=ls[(n-b).toNat]) ?_ ((zNT ls _ b left false (hls _ (List.getElem_mem _)) hl).bind Evt.ret))
      unfold zR
      rw[if_pos (by omega)]
      exact List.getElem?_eq_getElem h2
     ·rw[dif_neg h2]
      refine Evt.ifF (decide_eq_false (by omega)) ?_
      simp only[Tm.n]
      rw[yI (by omega) (by omega)]
      exact(zAp _).bind Evt.ret
    exact hleaf.bind (Evt.ifT rfl Evt.ret)
   ·rw[if_neg h1]at hloose ⊢
    have hleaf:Evt (fun q=>pX q (.mk kd n l) b ls left false) (.mk 0 0 [],false,left,false):=by
     simp only[pX]
     exact hloose.bind (Evt.ifT rfl Evt.ret)
    refine hleaf.bind (Evt.ifF rfl ?_)
    have h0:=hl.2.2 rfl
    have h3:=hl.2.1
    rw[yI (x:=left-1) (by omega) (by omega)]
    have go:∀lg:Bool,lg=decide (left-1<0)->Evt (fun q=>wJ q ls (.mk kd n l) b 0 (left-1) lg []) (let r:=sbL ls l kd 0 b (left-1) (decide (left-1<0));(.mk kd n r.1,r.2.1,r.2.2)):=fun lg hlg=>by
     subst hlg
     refine(zQE ls hls hlen l (.mk kd n l) 0 b (left-1) _ [] rfl hh.2 (by have:=hn.2.2.2.2;exact this) hb (by omega) ⟨by omega,by omega,fun h2=>?_⟩ (by simp)).eq (by simp[Tm.k,Tm.n])
     simp at h2;omega
    by_cases h4:left-1<0
    ·exact Evt.ifT (decide_eq_true h4) (go true (by simp[h4]))
    ·exact Evt.ifF (decide_eq_false h4) (go false (by simp[h4]))
theorem zQE(ls:List Tm)(hls:∀a∈ls,a.Ok)(hlen:ls.length≤1152921504606846976):∀(l:List Tm) (p:Tm) (v:Nat) (b left:Int) (long:Bool) (acc:List Tm),p.sub.drop v=l->wH l=true->p.sub.length≤2->0≤b->b+1+wT l≤1152921504606846976->pW left long->acc.length≤v ->
  Evt (fun q=>wJ q ls p b (v:Int) left long acc) (.mk p.k p.n (acc++(sbL ls l p.k v b left long).1),(sbL ls l p.k v b left long).2.1,(sbL ls l p.k v b left long).2.2)
 | [],p,v,b,left,long,acc,hd,hg,hl2,hb,hb2,hl,ha=>by
  refine Evt.succ ?_
  simp only[wJ]
  exact Evt.ifF (yC hd) (Evt.ret.eq (by rw[sbL];simp))
 |t::l,p,v,b,left,long,acc,hd,hg,hl2,hb,hb2,hl,ha=>by
  have hlt:=yE hd
  have hgc:=xX hg
  rw[wT]at hb2
  refine Evt.succ ?_
  simp only[wJ]
  refine Evt.ifT (yB hd) (Evt.pure (zX hd) ?_)
  have next:∀x:Tm×Int×Bool,pW x.2.1 x.2.2->Evt (fun q=>yT 40 acc [x.1]>>=fun l15=>wJ q ls p b (w64 ((v:Int)+1)) x.2.1 x.2.2 l15)
    (.mk p.k p.n (acc++x.1::(sbL ls l p.k (v+1) b x.2.1 x.2.2).1),(sbL ls l p.k (v+1) b x.2.1 x.2.2).2.1,(sbL ls l p.k (v+1) b x.2.1 x.2.2).2.2):=fun x hx=>by
   refine Evt.pure (yG (by simp<;>omega)) ?_
   rw[zU v (by omega)]
   exact(zQE ls hls hlen l p (v+1) b x.2.1 x.2.2 (acc++[x.1]) (zS hd) hgc.2 hl2 hb (by omega) hx (by simp<;>omega)).eq (by simp)
  rw[sbL]
  by_cases h1:v=1
  ·subst h1
   refine Evt.ifT rfl ?_
   by_cases h5:p.k=5
   ·refine Evt.ifF (by simp[h5]) ?_
    have e:xG p.k 1 b=b:=by unfold xG;simp[h5]
    rw[e]
    exact(zLY ls hls hlen t b left long hgc.1 hb (by omega) hl).bind (next _ (zBJ ls t b left long hl))
   ·refine Evt.ifT (by simp[h5]) ?_
    have e:xG p.k 1 b=b+1:=by unfold xG;simp[h5]
    rw[e,yI (x:=b+1) (by omega) (by omega)]
    exact(zLY ls hls hlen t (b+1) left long hgc.1 (by omega) (by omega) hl).bind (next _ (zBJ ls t (b+1) left long hl))
  ·refine Evt.ifF (by simp<;>omega) ?_
   have e:xG p.k v b=b:=by unfold xG;simp[h1]
   rw[e]
   exact(zLY ls hls hlen t b left long hgc.1 hb (by omega) hl).bind (next _ (zBJ ls t b left long hl))
end
def iD(t:Tm)(ls:List Tm):Tm×Int:=
 if zM t=true∧(ls.all zM)=true then
  (if (sbT ls t 0 8192 false).2.2=true then(zT,2)else if zM (sbT ls t 0 8192 false).1=true then((sbT ls t 0 8192 false).1,0)else(zT,2))
 else(zT,5)
theorem zWY(t:Tm)(ls:List Tm)(h:zM t=true)(ho:t.Ok)(hls:∀a∈ls,a.Ok)(hlen:ls.length≤1152921504606846976) :
  Evt (fun q=>bG q t ls) (if (sbT ls t 0 8192 false).2.2=true then(zT,2)else if zM (sbT ls t 0 8192 false).1=true then((sbT ls t 0 8192 false).1,0)else(zT,2)):=by
 simp only[bG]
 have hs:=zQ h
 refine Evt.bind (a:=()) (Evt.mk fun _=>rfl) ((zLY ls hls hlen t 0 8192 false hs.2.2 (by omega) (by omega) ⟨by omega,by omega,fun _=>by omega⟩).bind ?_)
 by_cases h1:(sbT ls t 0 8192 false).2.2=true
 ·rw[if_pos h1];exact Evt.ifT h1 Evt.ret
 ·rw[if_neg h1]
  refine Evt.ifF (by simpa using h1) ((yQ _ (zKo ls hls t 0 8192 false ho)).bind ?_)
  by_cases h2:zM (sbT ls t 0 8192 false).1=true
  ·rw[if_pos h2,if_pos h2];exact Evt.ret
  ·rw[if_neg h2,if_neg h2];exact Evt.ret
theorem zHS(t:Tm)(ls:List Tm)(h:zM t=true)(ho:t.Ok)(hls:∀a∈ls,a.Ok)(hlen:ls.length≤1152921504606846976):∀(r:List Tm) (v:Nat),ls.drop v=r ->
  Evt (fun q=>lX q t ls (v:Int)) (if (r.all zM)=true then(if (sbT ls t 0 8192 false).2.2=true then(zT,2)else if zM (sbT ls t 0 8192 false).1=true then((sbT ls t 0 8192 false).1,0)else(zT,2))else(zT,5))
 | [],v,hd=>by
  refine Evt.succ ?_
  simp only[lX]
  exact Evt.ifF (yC hd) ((zWY t ls h ho hls hlen).bind (Evt.ret.eq (by simp)))
 |x::r,v,hd=>by
  have hlt:=yE hd
  have hx:x∈ls:=by
   have:x∈ls.drop v:=by rw[hd];simp
   exact List.mem_of_mem_drop this
  refine Evt.succ ?_
  simp only[lX]
  refine Evt.ifT (yB hd) (Evt.pure (zX hd) ((yQ x (hls x hx)).bind ?_))
  by_cases h1:zM x=true
  ·refine Evt.ifT h1 ?_
   rw[zU v (by omega)]
   exact(zHS t ls h ho hls hlen r (v+1) (zS hd)).eq (by simp[h1])
  ·exact Evt.ifF (by simpa using h1) (Evt.ret.eq (by simp[h1,zT]))
theorem zLZ(t:Tm)(ls:List Tm)(ho:t.Ok)(hls:∀a∈ls,a.Ok)(hlen:ls.length≤1152921504606846976):Evt (fun q=>zNS q t ls) (iD t ls):=by
 simp only[zNS]
 refine(yQ t ho).bind ?_
 unfold iD
 by_cases h:zM t=true
 ·refine Evt.ifT h ((zHS t ls h ho hls hlen ls 0 rfl).eq ?_)
  simp[h]
 ·exact Evt.ifF (by simpa using h) (Evt.ret.eq (by simp[h,zT]))
theorem zWZ(t a:Tm)(ho:t.Ok)(ha:a.Ok):Evt (fun q=>zQC q t a) (iD t [a]):=by
 simp only[zQC]
 exact(zLZ t [a] ho (by simpa using ha) (by simp)).bind Evt.ret
theorem zMz(t:Tm)(ls:List Tm)(ho:t.Ok)(hls:∀a∈ls,a.Ok):(iD t ls).1.Ok:=by
 unfold iD
 split
 ·split
  ·exact zLW
  ·split
   ·exact zKo ls hls t 0 8192 false ho
   ·exact zLW
 ·exact zLW
def lY:Nat->Int->Int->List Tm->Int->Int->List Tm->Option (List Tm×Tm×Int)
 |0,_,_,_,_,_,_=>none
 |qq+1,p1,v25,v7,jJ,fS,sH=>
 if decide (v25<p1)then
 if jJ != 3 then
 some ([],(Tm.mk 0 0 []),6)
 else
 zR sH 0>>=fun x10=>
 yT 40 v7 [x10]>>=fun l12=>
 zR sH 1>>=fun x14=>
 lY qq p1 (w64 (v25+1)) l12 x14.k x14.n x14.sub
 else
 some (v7,(Tm.mk jJ fS sH),0)
def zCR(qq:Nat)(p0:Tm)(p1:Int):Option (List Tm×Tm×Int):=
 e52 qq p0>>=fun r1=>
 if r1 then
 if decide (p1<0)then
 some ([],(Tm.mk 0 0 []),5)
 else
 if decide (p1>24)then
 some ([],(Tm.mk 0 0 []),2)
 else
 e53 qq p0>>=fun r6=>
 lY qq p1 0 [] r6.k r6.n r6.sub
 else
 some ([],(Tm.mk 0 0 []),5)
theorem zUx:Qf 190 Tryz.f190:=⟨Tryz.func190,rfl⟩
theorem zUw:∀qq:Nat,(∀p1 v25 v7 jJ fS sH r,lY qq p1 v25 v7 jJ fS sH=some r->(∀j,dL 0 (inn (inn (rgt (lft (rgt (rgt (rgt (rgt (bod Tryz.f190))))))))) (sp j 45 0 [(5,.mp 0 0),(7,slv zH v7 (.st 0 3)),(8,.mp 1 0),(24,ai p1),(25,ai v25)]) (⟨[(0,.cells [ai 0,ai 0,slv zH ([]:List Tm) .nl]),(1,.cells [ai jJ,ai fS,slv zH sH .no])],2,[0],1,[]⟩) (fQ 0 (nQ 0 Tryz.f190 (.tup [.sl (zJ zH r.1) r.1.length .no,tmA r.2.1,ai r.2.2]) [] 0) [.blk 1,.seq (rgt (rgt (rgt (rgt (rgt (bod Tryz.f190))))))]))):=by
 intro qq
 induction qq with
 |zero=>
  exact fun _ _ _ _ _ _ _ h=>nn h
 |succ qq ih=>
  intro p1 v25 v7 jJ fS sH r h
  rw[lY]at h
  obtain⟨h8,h⟩|⟨h8,h⟩:=spl h
  have k:=oB 0 h8 o0
  obtain⟨h9,h⟩|⟨h9,h⟩:=spl h
  cases h
  exact fun j=>lF 1 [] (oD (dT ([]:List Tm))<|oD (dT ([]:List Tm))<|oB 1 h9 k)
  obtain⟨x10,h11,h⟩:=zC h
  obtain⟨l12,h13,h⟩:=zC h
  obtain⟨x14,h15,h⟩:=zC h
  exact fun j=>lH 3 [] [0,1] [1] [5,7,8,24,25] (oD (dT l12)<|oD (dT x14.sub)<|oD (dT ([]:List Tm))<|oA 1 (xA (o:=.no) h15)<|oP 0 (vA h13 (by simp))<|oS 1 (yW xE [x10])<|oA 1 (xA (o:=.no) h11)<|oB 1 h9 k) (ih _ _ _ _ _ _ _ h)
  cases h
  exact fun j=>lF 2 [] (oD (dT sH)<|oD (dT v7)<|oB 0 h8 o0)
theorem zQF{qq p0 p1 r}(h:zCR qq p0 p1=some r):Ct 190 [] [tmA p0,ai p1] (.tup [.sl (zJ zH r.1) r.1.length .no,tmA r.2.1,ai r.2.2]) [] 0:=⟨by
 unfold zCR at h
 have z {os ob} (k:Oz os ob):=oD (dT ([]:List Tm))<|oD (dT ([]:List Tm))<|k
 obtain⟨r1,h2,h⟩:=zC h
 obtain⟨h3,h⟩|⟨h3,h⟩:=spl h
 have k:=oK 1 [] h3 (c52 h2) o0
 obtain⟨h4,h⟩|⟨h4,h⟩:=spl h
 cases h
 exact tF zUx 1 [] (z<|oB 1 h4 k)
 have k:=oB 1 h4 k
 obtain⟨h5,h⟩|⟨h5,h⟩:=spl h
 cases h
 exact tF zUx 1 [] (z<|oB 0 h5 k)
 obtain⟨r6,h7,h⟩:=zC h
 exact tH zUx 1 [(none,7,3)] [1,2] [0] [5,7,8,24,25] (oD (dT ([]:List Tm))<|oD (dT r6.sub)<|oD (dT ([]:List Tm))<|oC 1 [] (c53 h7)<|oB 0 h5 k) (zUw _ _ _ _ _ _ _ _ h)
 cases h
 exact tF zUx 2 [] (z<|oK 1 [] h3 (c52 h2) o0),⟨⟨tv,tv,⟨tv,dT _⟩,tv⟩,tv,tv⟩,zB,⟨dT _,⟨tv,tv,dT _,tv⟩,tv,tv⟩,zB⟩
def lZ:Nat->Tm->Int->Int->Int->List Tm->Option (List Tm×Tm×Int)
 |0,_,_,_,_,_=>none
 |qq+1,p0,v5,xI,wK,nI=>
 if xI==3 then
 if (nI.length:Int)==2 then
 if decide (v5≤24)then
 zR nI 1>>=fun x4=>
 lZ qq p0 (w64 (v5+1)) x4.k x4.n x4.sub
 else
 zCR qq p0 v5>>=fun r6=>
 some (r6.1,r6.2.1,r6.2.2)
 else
 zCR qq p0 v5>>=fun r8=>
 some (r8.1,r8.2.1,r8.2.2)
 else
 zCR qq p0 v5>>=fun r10=>
 some (r10.1,r10.2.1,r10.2.2)
def zHT(qq:Nat)(p0:Tm):Option (List Tm×Tm×Int):=
 lZ qq p0 0 p0.k p0.n p0.sub
theorem zUv:∀qq:Nat,(∀p0 v5 xI wK nI r,lZ qq p0 v5 xI wK nI=some r->(∀j,dL 0 (inn (inn (rgt (lft (rgt (rgt (bod Tryz.f158))))))) (sp j 34 0 [(1,.mp 0 0),(3,.mp 1 0),(5,ai v5),(6,.mp 2 0)]) (⟨[(0,.cells [ai p0.k,ai p0.n,slv zH p0.sub .no]),(1,.cells [ai 0,ai 0,slv zH ([]:List Tm) .nl]),(2,.cells [ai xI,ai wK,slv zH nI .no])],3,[],0,[]⟩) (fQ 0 (nQ 0 Tryz.f158 (.tup [.sl (zJ zH r.1) r.1.length .no,tmA r.2.1,ai r.2.2]) [] 0) [.blk 0,.seq (rgt (rgt (rgt (bod Tryz.f158))))]))):=by
 intro qq
 induction qq with
 |zero=>
  exact fun _ _ _ _ _ _ h=>nn h
 |succ qq ih=>
  intro p0 v5 xI wK nI r h
  rw[lZ]at h
  obtain⟨h1,h⟩|⟨h1,h⟩:=spl h
  have k:=oB 1 h1 o0
  obtain⟨h2,h⟩|⟨h2,h⟩:=spl h
  have k:=oB 2 h2 k
  obtain⟨h3,h⟩|⟨h3,h⟩:=spl h
  obtain⟨x4,h5,h⟩:=zC h
  exact fun j=>lH 2 [] [0,1,3] [] [1,3,5,6] (oD (dT x4.sub)<|oD (dT ([]:List Tm))<|oD (dT p0.sub)<|oA 4 (xA (o:=.no) h5)<|oB 0 h3 k) (ih _ _ _ _ _ _ h)
  obtain⟨r6,h7,h⟩:=zC h
  cases h
  exact fun j=>lF 4 [] (oD (dT r6.2.1.sub)<|oD (dT r6.1)<|oC 1 [] (zQF h7)<|oB 0 h3 k)
  obtain⟨r8,h9,h⟩:=zC h
  cases h
  exact fun j=>lF 4 [] (oD (dT r8.2.1.sub)<|oD (dT r8.1)<|oC 1 [] (zQF h9)<|oB 2 h2 k)
  obtain⟨r10,h11,h⟩:=zC h
  cases h
  exact fun j=>lF 4 [] (oD (dT r10.2.1.sub)<|oD (dT r10.1)<|oC 1 [] (zQF h11)<|oB 1 h1 o0)
theorem zUu{qq p0 r}(h:zHT qq p0=some r):Ct 158 [] [tmA p0] (.tup [.sl (zJ zH r.1) r.1.length .no,tmA r.2.1,ai r.2.2]) [] 0:=⟨by
 unfold zHT at h
 exact tH ⟨Tryz.func158,rfl⟩ 2 [] [0,1,2] [] [1,3,5,6] (oD (dT p0.sub)<|oD (dT ([]:List Tm))<|oD (dT p0.sub) o0) (zUv _ _ _ _ _ _ _ h),⟨⟨tv,tv,⟨tv,dT _⟩,tv⟩,tv⟩,zB,⟨dT _,⟨tv,tv,dT _,tv⟩,tv,tv⟩,zB⟩
def kA:Nat->Int->Int->(Tm×List Tm)->Int->Option Bool
 |0,_,_,_,_=>none
 |qq+1,p2,p4,r1,v37=>
 if decide (v37<p2)then
 zR r1.2 v37>>=fun x7=>
 if x7.k != 1 then
 some false
 else
 if x7.n != (w64 ((w64 (p4-1))-v37))then
 some false
 else
 kA qq p2 p4 r1 (w64 (v37+1))
 else
 some true
def zKn(qq:Nat)(p0:Tm)(p1 p2 p3 p4:Int):Option Bool:=
 zCJ qq p0>>=fun r1=>
 if r1.1.k != 6 then
 some false
 else
 if r1.1.n != p1 then
 some false
 else
 if (r1.2.length:Int) != (w64 (p2+p3))then
 some false
 else
 kA qq p2 p4 r1 0
theorem zUt:Qf 194 Tryz.f194:=⟨Tryz.func194,rfl⟩
theorem zUs:∀qq:Nat,(∀p2 p4 r1 v37 r,kA qq p2 p4 r1 v37=some r->(∀j,dL 0 (inn (inn (rgt (lft (rgt (rgt (rgt (bod Tryz.f194)))))))) (sp j 59 0 [(4,ai p4),(12,slv zH r1.2 .no),(36,ai p2),(37,ai v37)]) (⟨[],0,[],0,[]⟩) (fQ 0 (nQ 0 Tryz.f194 (ab r) [] 0) [.blk 0,.seq (rgt (rgt (rgt (rgt (bod Tryz.f194)))))]))):=by
 intro qq
 induction qq with
 |zero=>
  exact fun _ _ _ _ _ h=>nn h
 |succ qq ih=>
  intro p2 p4 r1 v37 r h
  rw[kA]at h
  obtain⟨h6,h⟩|⟨h6,h⟩:=spl h
  obtain⟨x7,h8,h⟩:=zC h
  have k:=oA 0 (xA (o:=.no) h8)<|oB 0 h6 o0
  obtain⟨h9,h⟩|⟨h9,h⟩:=spl h
  cases h
  exact fun j=>lF 0 [] (oB 1 h9 k)
  have k:=oA 0 (xA (o:=.no) h8)<|oB 1 h9 k
  obtain⟨h10,h⟩|⟨h10,h⟩:=spl h
  cases h
  exact fun j=>lF 0 [] (oB 3 h10 k)
  exact fun j=>lH 1 [] [] [] [4,12,36,37] (oD (dT r1.2)<|oB 3 h10 k) (ih _ _ _ _ _ h)
  cases h
  exact fun j=>lF 0 [] (oB 0 h6 o0)
theorem zUr{qq p0 p1 p2 p3 p4 r}(h:zKn qq p0 p1 p2 p3 p4=some r):Ct 194 [] [tmA p0,ai p1,ai p2,ai p3,ai p4] (ab r) [] 0:=⟨by
 unfold zKn at h
 obtain⟨r1,h2,h⟩:=zC h
 have k:=oC 1 [] (zKr h2) o0
 obtain⟨h3,h⟩|⟨h3,h⟩:=spl h
 cases h
 exact tF zUt 0 [] (oB 4 h3 k)
 have k:=oB 4 h3 k
 obtain⟨h4,h⟩|⟨h4,h⟩:=spl h
 cases h
 exact tF zUt 0 [] (oB 1 h4 k)
 have k:=oB 1 h4 k
 obtain⟨h5,h⟩|⟨h5,h⟩:=spl h
 cases h
 exact tF zUt 0 [] (oB 2 h5 k)
 exact tH zUt 0 [] [] [] [4,12,36,37] (oD (dT r1.2)<|oB 2 h5 k) (zUs _ _ _ _ _ _ h),⟨⟨tv,tv,⟨tv,dT _⟩,tv⟩,tv,tv,tv,tv,tv⟩,zB,tv,zB⟩
def mL:Nat->Tm->Option (List Tm×Tm)
 |0,t=>some ([],t)
 |n+1,.mk k _ [a,b]=>if k=3 then(mL n b).map fun r=>(a::r.1,r.2)else none
 |_+1,_=>none
theorem zBK(n:Nat)(m:Int)(a b:Tm):mL (n+1) (.mk 3 m [a,b])=(mL n b).map fun r=>(a::r.1,r.2):=by rw[mL,if_pos rfl]
theorem bH{n:Nat}{t:Tm}(h:t.k≠3):mL (n+1) t=none:=by
 unfold mL
 split
 ·rename_i h1;cases h1
 ·rename_i h1;exact if_neg h
 ·rfl
theorem gQ{t:Tm}(hg:yY t=true)(h:t.k=3):∃a b,t = .mk 3 t.n [a,b]∧yY a=true∧yY b=true:=by
 obtain⟨k,n,l⟩:=t
 have hh:=vB hg
 have hs:=uP hh.1
 replace h:k=3:=h
 subst h
 obtain⟨a,b,rfl⟩:=zTW (hs.2.2.2.2.2.1 (.inl rfl)).1
 have hc:=xX hh.2
 exact⟨a,b,rfl,hc.1,(xX hc.2).1⟩
def zFS(acc:List Tm):Option (List Tm×Tm)->List Tm×Tm×Int
 |none=>([],zT,6)
 |some r=>(acc++r.1,r.2,0)
theorem zNU(N:Nat)(hN:N≤24):∀(m v:Nat) (acc:List Tm) (x:Tm),v+m=N->yY x=true->acc.length≤v->Evt (fun q=>lY q (N:Int) (v:Int) acc x.k x.n x.sub) (zFS acc (mL m x)):=by
 intro m
 induction m with
 |zero=>
  intro v acc x hm hg ha
  refine Evt.succ ?_
  simp only[lY]
  refine Evt.ifF (decide_eq_false (by omega)) (Evt.ret.eq ?_)
  rw[mL,zFS,sO];simp
 |succ m ih=>
  intro v acc x hm hg ha
  refine Evt.succ ?_
  simp only[lY]
  refine Evt.ifT (decide_eq_true (by omega)) ?_
  by_cases h:x.k=3
  ·obtain⟨a,b,hx,hga,hgb⟩:=gQ hg h
   refine Evt.ifF (by simp[h]) ?_
   rw[hx,zBK]
   refine Evt.pure (a:=a) rfl (Evt.pure (yG (by simp<;>omega)) (Evt.pure (a:=b) rfl ?_))
   rw[zU v (by omega)]
   refine(ih (v+1) (acc++[a]) b (by omega) hgb (by simp<;>omega)).eq ?_
   cases mL m b<;>simp[zFS]
  ·rw[bH h,zFS]
   exact Evt.ifT (by simp[h]) Evt.ret
def vL(t:Tm)(n:Int):List Tm×Tm×Int:=
 if zM t=true then(if n<0 then([],zT,5)else if n>24 then([],zT,2)else zFS [] (mL n.toNat t))else([],zT,5)
theorem bI(t:Tm)(n:Int)(ho:t.Ok):Evt (fun q=>zCR q t n) (vL t n):=by
 simp only[zCR]
 refine(yQ t ho).bind ?_
 unfold vL
 by_cases h:zM t=true
 ·rw[if_pos h]
  refine Evt.ifT h ?_
  by_cases h1:n<0
  ·rw[if_pos h1];exact Evt.ifT (decide_eq_true h1) Evt.ret
  ·rw[if_neg h1]
   refine Evt.ifF (decide_eq_false h1) ?_
   by_cases h2:n>24
   ·rw[if_pos h2];exact Evt.ifT (decide_eq_true h2) Evt.ret
   ·rw[if_neg h2]
    refine Evt.ifF (decide_eq_false h2) ((rD t ho).bind ?_)
    unfold nU
    rw[if_pos h]
    have:=zNU n.toNat (by omega) n.toNat 0 [] t (by omega) (zQ h).2.2 (by simp)
    rw[show ((n.toNat:Nat):Int)=n by omega]at this
    exact this
 ·rw[if_neg h];exact Evt.ifF (by simpa using h) Evt.ret
def uQ:Tm->Nat
 | .mk k _ [_,b]=>if k=3 then uQ b+1 else 0
 |_=>0
theorem zBL(m:Int)(a b:Tm):uQ (.mk 3 m [a,b])=uQ b+1:=by rw[uQ,if_pos rfl]
theorem zKm{t:Tm}(h:t.k≠3):uQ t=0:=by
 unfold uQ
 split
 ·exact if_neg h
 ·rfl
theorem zQG{t:Tm}(h:t.sub.length≠2):uQ t=0:=by
 unfold uQ
 split
 ·exact absurd rfl h
 ·rfl
def yJ(t:Tm):List Tm×Tm×Int:=vL t ((min (uQ t) 25:Nat):Int)
theorem zNV(p:Tm)(ho:p.Ok):∀(m v:Nat) (x:Tm),v+m=25->Evt (fun q=>lZ q p (v:Int) x.k x.n x.sub) (vL p ((min (v+uQ x) 25:Nat):Int)):=by
 intro m
 induction m with
 |zero=>
  intro v x hm
  refine Evt.succ ?_
  simp only[lZ]
  have hv:v=25:=by omega
  subst hv
  have hsp:Evt (fun q=>zCR q p ((25:Nat):Int)>>=fun r6=>some (r6.1,r6.2.1,r6.2.2)) (vL p ((min (25+uQ x) 25:Nat):Int)):=
   ((bI p _ ho).bind Evt.ret).eq (by rw[show min (25+uQ x) 25=25 by omega])
  exact Evt.iff (fun _=>Evt.iff (fun _=>Evt.ifF rfl hsp) fun _=>hsp) fun _=>hsp
 |succ m ih=>
  intro v x hm
  refine Evt.succ ?_
  simp only[lZ]
  have hsp:uQ x=0->Evt (fun q=>zCR q p (v:Int)>>=fun r6=>some (r6.1,r6.2.1,r6.2.2)) (vL p ((min (v+uQ x) 25:Nat):Int)):=fun h=>
   ((bI p _ ho).bind Evt.ret).eq (by rw[h,show min (v+0) 25=v by omega])
  by_cases h3:x.k=3
  ·refine Evt.ifT (by simp[h3]) ?_
   by_cases h2:x.sub.length=2
   ·refine Evt.ifT (by simp[h2]) (Evt.ifT (decide_eq_true (by omega)) ?_)
    obtain⟨k,n,l⟩:=x
    replace h3:k=3:=h3
    subst h3
    obtain⟨a,b,rfl⟩:=zTW h2
    refine Evt.pure (a:=b) rfl ?_
    rw[zU v (by omega),zBL]
    exact(ih (v+1) b (by omega)).eq (by rw[show v+1+uQ b=v+(uQ b+1) by omega])
   ·exact Evt.ifF (by simp<;>omega) (hsp (zQG h2))
  ·exact Evt.ifF (by simp[h3]) (hsp (zKm h3))
theorem bJ(t:Tm)(ho:t.Ok):Evt (fun q=>zHT q t) (yJ t):=by
 simp only[zHT]
 exact(zNV t ho 25 0 t rfl).eq (by unfold yJ;simp)
theorem zEF:∀(n:Nat) (t:Tm) (r:List Tm×Tm),yY t=true->mL n t=some r->r.1.length=n∧uQ t=n+uQ r.2∧(yY r.2=true∧r.2.nodes≤t.nodes∧r.2.high≤t.high)∧∀x∈r.1,yY x=true∧x.nodes≤t.nodes∧x.high≤t.high
 |0,t,r,hg,h=>by
  rw[mL]at h;cases h
  exact⟨rfl,by simp,⟨hg,Nat.le_refl _,Nat.le_refl _⟩,fun x hx=>by cases hx⟩
 |n+1,t,r,hg,h=>by
  by_cases h3:t.k=3
  ·obtain⟨a,b,hx,hga,hgb⟩:=gQ hg h3
   rw[hx]at h ⊢
   rw[zBK]at h
   obtain⟨r',h1,rfl⟩:=Option.map_eq_some_iff.1 h
   have ih:=zEF n b r' hgb h1
   rw[zBL]
   simp only[Tm.nodes,yL,Tm.high,wT]
   refine⟨by simp[ih.1],by omega,⟨ih.2.2.1.1,by omega,by omega⟩,fun x hx=>?_⟩
   rcases List.mem_cons.1 hx with rfl|hx
   ·exact⟨hga,by omega,by omega⟩
   ·have:=ih.2.2.2 x hx;exact⟨this.1,by omega,by omega⟩
  ·rw[bH h3]at h;cases h
theorem zEG{t:Tm}{n:Int}{l:List Tm}{y:Tm}(h:vL t n=(l,y,0)):zM t=true∧0≤n∧n≤24∧(l.length:Int)=n∧uQ t=l.length+uQ y∧zM y=true∧∀x∈l,zM x=true:=by
 unfold vL at h
 split at h
 ·rename_i hs
  split at h
  ·simp at h
  ·split at h
   ·simp at h
   ·cases hr:mL n.toNat t with
    |none=>rw[hr]at h;simp[zFS]at h
    |some r=>
     rw[hr]at h
     simp only[zFS,List.nil_append,Prod.mk.injEq,and_true]at h
     obtain⟨rfl,rfl⟩:=h
     have hsp:=zQ hs
     have:=zEF _ _ _ hsp.2.2 hr
     refine⟨hs,by omega,by omega,by omega,by omega,lW (by omega) (by omega) this.2.2.1.1,fun x hx=>?_⟩
     have hx:=this.2.2.2 x hx
     exact lW (by omega) (by omega) hx.1
 ·simp at h
theorem sU{t:Tm}{l:List Tm}{y:Tm}(h:yJ t=(l,y,0)):zM t=true∧l.length=uQ t∧l.length≤24∧uQ y=0∧zM y=true∧∀x∈l,zM x=true:=by
 have:=zEG h
 refine⟨this.1,by omega,by omega,by omega,this.2.2.2.2.2.1,this.2.2.2.2.2.2⟩
def zHU:List Tm->Int->Bool
 | [],_=>true
 |a::l,n=>a.k==1&&a.n==n&&zHU l (n-1)
def rH(t:Tm)(of pars more binders:Int):Bool:=
 (hdT t).k==6&&(hdT t).n==of&&((arT t).length:Int)==pars+more&&zHU ((arT t).take pars.toNat) (binders-1)
theorem zHV(p:Tm×List Tm)(P:Nat)(binders:Int)(hP:P≤p.2.length)(hl:p.2.length≤8192)(hb:-1152921504606846976≤binders∧binders≤1152921504606846976):∀(m v:Nat),v+m=P ->
  Evt (fun q=>kA q (P:Int) binders p (v:Int)) (zHU ((p.2.take P).drop v) (binders-1-v)):=by
 intro m
 induction m with
 |zero=>
  intro v hm
  refine Evt.succ ?_
  simp only[kA]
  refine Evt.ifF (decide_eq_false (by omega)) (Evt.ret.eq ?_)
  rw[List.drop_eq_nil_of_le (by simp<;>omega),zHU]
 |succ m ih=>
  intro v hm
  refine Evt.succ ?_
  simp only[kA]
  have hv:v<(p.2.take P).length:=by simp<;>omega
  have hd:=List.drop_eq_getElem_cons hv
  have hg:zR p.2 (v:Int)=some (p.2.take P)[v]:=by
   unfold zR
   rw[if_pos (by omega),show (v:Int).toNat=v by omega,List.getElem?_eq_getElem (by omega)]
   simp
  generalize (p.2.take P)[v]=x at hd hg
  refine Evt.ifT (decide_eq_true (by omega)) (Evt.pure hg ?_)
  rw[hd,zHU,yI (x:=binders-1) (by omega) (by omega),yI (x:=binders-1-v) (by omega) (by omega)]
  by_cases h1:x.k=1
  ·refine Evt.ifF (by simp[h1]) ?_
   by_cases h2:x.n=binders-1-v
   ·refine Evt.ifF (by simp[h2]) ?_
    rw[zU v (by omega)]
    refine(ih (v+1) (by omega)).eq ?_
    rw[show binders-1-((v+1:Nat):Int)=binders-1-v-1 by omega]
    simp[h1,h2]
   ·exact Evt.ifT (by simp[h2]) (Evt.ret.eq (by simp[h2]))
  ·exact Evt.ifT (by simp[h1]) (Evt.ret.eq (by simp[h1]))
theorem eS(t:Tm)(of pars more binders:Int)(hs:zM t=true)(h0:0≤pars∧pars≤1152921504606846976)(h1:0≤more∧more≤1152921504606846976)(hb:-1152921504606846976≤binders∧binders≤1152921504606846976) :
  Evt (fun q=>zKn q t of pars more binders) (rH t of pars more binders):=by
 simp only[zKn]
 refine(mJ t hs).bind ?_
 unfold rH
 by_cases h2:(hdT t).k=6
 ·refine Evt.ifF (by simp[h2]) ?_
  by_cases h3:(hdT t).n=of
  ·refine Evt.ifF (by simp[h3]) ?_
   rw[yI (x:=pars+more) (by omega) (by omega)]
   by_cases h4:((arT t).length:Int)=pars+more
   ·refine Evt.ifF (by simp[h4]) ?_
    have hl:=tM t (zQ hs).2.2
    have hn:=(zQ hs).1
    have:=zHV (hdT t,arT t) pars.toNat binders (by show _≤(arT t).length;omega) (by show (arT t).length≤_;omega) hb pars.toNat 0 (by omega)
    rw[show ((pars.toNat:Nat):Int)=pars by omega]at this
    exact this.eq (by simp[h2,h3,h4])
   ·exact Evt.ifT (by simp[h4]) (Evt.ret.eq (by simp[h4]))
  ·exact Evt.ifT (by simp[h3]) (Evt.ret.eq (by simp[h3]))
 ·exact Evt.ifT (by simp[h2]) (Evt.ret.eq (by simp[h2]))
def kB:Nat->List ByteArray->Int->(List (ByteArray×Int))->Option Bool
 |0,_,_,_=>none
 |qq+1,p0,v9,zW=>
 if decide (v9<(p0.length:Int))then
 zR p0 v9>>=fun x2=>
 if decide ((zHq zW x2)>0)then
 some false
 else
 kB qq p0 (w64 (v9+1)) (zCc zW x2 (w64 ((zHq zW x2)+1)))
 else
 some true
def zNW(qq:Nat)(p0:List ByteArray):Option Bool:=
 kB qq p0 0 ([]:List (ByteArray×Int))
theorem zUq:∀qq:Nat,(∀p0 v9 zW r,kB qq p0 v9 zW=some r->(∀j,dL 0 (inn (inn (rgt (lft (rgt (rgt (bod Tryz.f118))))))) (sp j 22 0 [(3,.obj 0),(7,slv zAy p0 .no),(8,ai (p0.length:Int)),(9,ai v9)]) (⟨[(0,zFF zW)],1,[],0,[]⟩) (fQ 0 (nQ 0 Tryz.f118 (ab r) [] 0) [.blk 0,.seq (rgt (rgt (rgt (bod Tryz.f118))))]))):=by
 intro qq
 induction qq with
 |zero=>
  exact fun _ _ _ _ h=>nn h
 |succ qq ih=>
  intro p0 v9 zW r h
  rw[kB]at h
  obtain⟨h1,h⟩|⟨h1,h⟩:=spl h
  obtain⟨x2,h3,h⟩:=zC h
  have k:=oL 1 (zVY zW x2)<|oA 0 (zYK (o:=.no) h3)<|oB 0 h1 o0
  obtain⟨h4,h⟩|⟨h4,h⟩:=spl h
  cases h
  exact fun j=>lF 0 [] (oB 0 h4 k)
  exact fun j=>lH 1 [] [0] [] [3,7,8,9] (oD (dS p0)<|oU 1 (zYM zW x2 (w64 ((zHq zW x2)+1)))<|oL 0 (zVY zW x2)<|oB 0 h4 k) (ih _ _ _ _ h)
  cases h
  exact fun j=>lF 0 [] (oB 0 h1 o0)
theorem zZr{qq p0 r}(h:zNW qq p0=some r):Ct 118 [] [slv zAy p0 .no] (ab r) [] 0:=⟨by
 unfold zNW at h
 exact tH ⟨Tryz.func118,rfl⟩ 1 [] [0] [] [3,7,8,9] (oD (dS p0) o0) (zUq _ _ _ _ _ h),⟨⟨tv,dS _⟩,tv⟩,zB,tv,zB⟩
def zNX(qq:Nat)(p0:Int):Option Bool:=
 if decide (p0≥0)then
 if decide (p0≤1114111)then
 if decide (p0<55296)then
 some true
 else
 some (decide (p0>57343))
 else
 some false
 else
 some false
theorem zUp:Qf 217 Tryz.f217:=⟨Tryz.func217,rfl⟩
theorem zUo{qq p0 r}(h:zNX qq p0=some r):Ct 217 [] [ai p0] (ab r) [] 0:=⟨by
 unfold zNX at h
 obtain⟨h1,h⟩|⟨h1,h⟩:=spl h
 have k:=oB 0 h1 o0
 obtain⟨h2,h⟩|⟨h2,h⟩:=spl h
 have k:=oB 0 h2 k
 obtain⟨h3,h⟩|⟨h3,h⟩:=spl h
 cases h
 exact tF zUp 0 [] (oB 0 h3 k)
 cases h
 exact tF zUp 1 [] (oB 0 h3 k)
 cases h
 exact tF zUp 0 [] (oB 0 h2 k)
 cases h
 exact tF zUp 0 [] (oB 0 h1 o0),⟨tv,tv⟩,zB,tv,zB⟩
def zQH(qq:Nat)(p0:U8):Option (Int×Int):=
 if decide (p0<128)then
 some (1,(w64 (p0)))
 else
 if decide (p0≥192)then
 if decide (p0<224)then
 some (2,(w64 ((IntKind.u8.wrap ((BitVec.ofInt (IntKind.bits .u8) p0 &&& BitVec.ofInt (IntKind.bits .u8) 31).toNat:Nat)))))
 else
 if decide (p0≥224)then
 if decide (p0<240)then
 some (3,(w64 ((IntKind.u8.wrap ((BitVec.ofInt (IntKind.bits .u8) p0 &&& BitVec.ofInt (IntKind.bits .u8) 15).toNat:Nat)))))
 else
 if decide (p0≥240)then
 if decide (p0<248)then
 some (4,(w64 ((IntKind.u8.wrap ((BitVec.ofInt (IntKind.bits .u8) p0 &&& BitVec.ofInt (IntKind.bits .u8) 7).toNat:Nat)))))
 else
 some (0,0)
 else
 some (0,0)
 else
 if decide (p0≥240)then
 if decide (p0<248)then
 some (4,(w64 ((IntKind.u8.wrap ((BitVec.ofInt (IntKind.bits .u8) p0 &&& BitVec.ofInt (IntKind.bits .u8) 7).toNat:Nat)))))
 else
 some (0,0)
 else
 some (0,0)
 else
 if decide (p0≥224)then
 if decide (p0<240)then
 some (3,(w64 ((IntKind.u8.wrap ((BitVec.ofInt (IntKind.bits .u8) p0 &&& BitVec.ofInt (IntKind.bits .u8) 15).toNat:Nat)))))
 else
 if decide (p0≥240)then
 if decide (p0<248)then
 some (4,(w64 ((IntKind.u8.wrap ((BitVec.ofInt (IntKind.bits .u8) p0 &&& BitVec.ofInt (IntKind.bits .u8) 7).toNat:Nat)))))
 else
 some (0,0)
 else
 some (0,0)
 else
 if decide (p0≥240)then
 if decide (p0<248)then
 some (4,(w64 ((IntKind.u8.wrap ((BitVec.ofInt (IntKind.bits .u8) p0 &&& BitVec.ofInt (IntKind.bits .u8) 7).toNat:Nat)))))
 else
 some (0,0)
 else
 some (0,0)
theorem fG:Qf 228 Tryz.f228:=⟨Tryz.func228,rfl⟩
theorem yAN{qq p0 r}(h:zQH qq p0=some r):Ct 228 [] [.val (.int .u8 p0)] (.tup [ai r.1,ai r.2]) [] 0:=⟨by
 unfold zQH at h
 obtain⟨h1,h⟩|⟨h1,h⟩:=spl h
 cases h
 exact tF fG 1 [] (oB 0 h1 o0)
 have k:=oB 0 h1 o0
 obtain⟨h2,h⟩|⟨h2,h⟩:=spl h
 have k:=oB 0 h2 k
 obtain⟨h3,h⟩|⟨h3,h⟩:=spl h
 cases h
 exact tF fG 2 [] (oB 0 h3 k)
 have k:=oB 0 h3 k
 obtain⟨h4,h⟩|⟨h4,h⟩:=spl h
 have k:=oB 0 h4 k
 obtain⟨h5,h⟩|⟨h5,h⟩:=spl h
 cases h
 exact tF fG 2 [] (oB 0 h5 k)
 have k:=oB 0 h5 k
 obtain⟨h6,h⟩|⟨h6,h⟩:=spl h
 have k:=oB 0 h6 k
 obtain⟨h7,h⟩|⟨h7,h⟩:=spl h
 cases h
 exact tF fG 2 [] (oB 0 h7 k)
 cases h
 exact tF fG 0 [] (oB 0 h7 k)
 cases h
 exact tF fG 0 [] (oB 0 h6 k)
 have k:=oB 0 h4 k
 obtain⟨h8,h⟩|⟨h8,h⟩:=spl h
 have k:=oB 0 h8 k
 obtain⟨h9,h⟩|⟨h9,h⟩:=spl h
 cases h
 exact tF fG 2 [] (oB 0 h9 k)
 cases h
 exact tF fG 0 [] (oB 0 h9 k)
 cases h
 exact tF fG 0 [] (oB 0 h8 k)
 have k:=oB 0 h2 k
 obtain⟨h10,h⟩|⟨h10,h⟩:=spl h
 have k:=oB 0 h10 k
 obtain⟨h11,h⟩|⟨h11,h⟩:=spl h
 cases h
 exact tF fG 2 [] (oB 0 h11 k)
 have k:=oB 0 h11 k
 obtain⟨h12,h⟩|⟨h12,h⟩:=spl h
 have k:=oB 0 h12 k
 obtain⟨h13,h⟩|⟨h13,h⟩:=spl h
 cases h
 exact tF fG 2 [] (oB 0 h13 k)
 cases h
 exact tF fG 0 [] (oB 0 h13 k)
 cases h
 exact tF fG 0 [] (oB 0 h12 k)
 have k:=oB 0 h10 k
 obtain⟨h14,h⟩|⟨h14,h⟩:=spl h
 have k:=oB 0 h14 k
 obtain⟨h15,h⟩|⟨h15,h⟩:=spl h
 cases h
 exact tF fG 2 [] (oB 0 h15 k)
 cases h
 exact tF fG 0 [] (oB 0 h15 k)
 cases h
 exact tF fG 0 [] (oB 0 h14 k),⟨tv,tv⟩,zB,⟨tv,tv,tv⟩,zB⟩
def zQI(qq:Nat)(p0:Int):Option Int:=
 if decide (p0≥65536)then
 some 4
 else
 if decide (p0≥2048)then
 some 3
 else
 if decide (p0≥128)then
 some 2
 else
 some 1
theorem zUn:Qf 229 Tryz.f229:=⟨Tryz.func229,rfl⟩
theorem yAO{qq p0 r}(h:zQI qq p0=some r):Ct 229 [] [ai p0] (ai r) [] 0:=⟨by
 unfold zQI at h
 obtain⟨h1,h⟩|⟨h1,h⟩:=spl h
 cases h
 exact tF zUn 3 [] (oB 0 h1 o0)
 have k:=oB 0 h1 o0
 obtain⟨h2,h⟩|⟨h2,h⟩:=spl h
 cases h
 exact tF zUn 2 [] (oB 0 h2 k)
 have k:=oB 0 h2 k
 obtain⟨h3,h⟩|⟨h3,h⟩:=spl h
 cases h
 exact tF zUn 1 [] (oB 0 h3 k)
 cases h
 exact tF zUn 0 [] (oB 0 h3 k),⟨tv,tv⟩,zB,tv,zB⟩
def kC:Nat->ByteArray->Int->(Int×Int)->Int->Int->Option (Int×Int×Int)
 |0,_,_,_,_,_=>none
 |qq+1,p0,p1,r5,v8,v9=>
 if decide (v9<r5.1)then
 zCb p0 (w64 (p1+v9))>>=fun x10=>
 if (IntKind.u8.wrap ((BitVec.ofInt (IntKind.bits .u8) x10 &&& BitVec.ofInt (IntKind.bits .u8) 192).toNat:Nat)) != 128 then
 some (0,0,1)
 else
 kC qq p0 p1 r5 (IntKind.i64.wrap ((BitVec.ofInt (IntKind.bits .i64) (w64 (v8*2 ^ (min (Int.toNat 6) (IntKind.bits .i64)))) ||| BitVec.ofInt (IntKind.bits .i64) (w64 ((IntKind.u8.wrap ((BitVec.ofInt (IntKind.bits .u8) x10 &&& BitVec.ofInt (IntKind.bits .u8) 63).toNat:Nat))))).toNat:Nat)) (w64 (v9+1))
 else
 zNX qq v8>>=fun r13=>
 if r13 then
 zQI qq v8>>=fun r16=>
 if r16 != r5.1 then
 some (0,0,1)
 else
 some (v8,r5.1,0)
 else
 some (0,0,1)
def zQJ(qq:Nat)(p0:ByteArray)(p1:Int):Option (Int×Int×Int):=
 if decide (p1<0)then
 some (0,0,1)
 else
 if decide (p1≥(p0.size:Int))then
 some (0,0,1)
 else
 zCb p0 p1>>=fun x3=>
 zQH qq x3>>=fun r5=>
 if r5.1==0 then
 some (0,0,1)
 else
 if decide (r5.1>(w64 ((p0.size:Int)-p1)))then
 some (0,0,1)
 else
 kC qq p0 p1 r5 r5.2 1
theorem zQK:Qf 215 Tryz.f215:=⟨Tryz.func215,rfl⟩
theorem zUm:∀qq:Nat,(∀p0 p1 r5 v8 v9 r,kC qq p0 p1 r5 v8 v9=some r->(∀j,dL 0 (inn (inn (rgt (lft (rgt (rgt (rgt (rgt (bod Tryz.f215))))))))) (sp j 66 0 [(0,at' p0),(1,ai p1),(7,ai r5.1),(8,ai v8),(9,ai v9)]) (⟨[],0,[],0,[]⟩) (fQ 0 (nQ 0 Tryz.f215 (.tup [ai r.1,ai r.2.1,ai r.2.2]) [] 0) [.blk 0,.seq (rgt (rgt (rgt (rgt (rgt (bod Tryz.f215))))))]))):=by
 intro qq
 induction qq with
 |zero=>
  exact fun _ _ _ _ _ _ h=>nn h
 |succ qq ih=>
  intro p0 p1 r5 v8 v9 r h
  rw[kC]at h
  obtain⟨h9,h⟩|⟨h9,h⟩:=spl h
  obtain⟨x10,h11,h⟩:=zC h
  have k:=oA 1 (zPZ h11)<|oB 0 h9 o0
  obtain⟨h12,h⟩|⟨h12,h⟩:=spl h
  cases h
  exact fun j=>lF 0 [] (oB 1 h12 k)
  exact fun j=>lH 5 [] [] [] [0,1,7,8,9] (oB 1 h12 k) (ih _ _ _ _ _ _ h)
  obtain⟨r13,h14,h⟩:=zC h
  have k:=oB 0 h9 o0
  obtain⟨h15,h⟩|⟨h15,h⟩:=spl h
  obtain⟨r16,h17,h⟩:=zC h
  have k:=oC 1 [] (yAO h17)<|oK 0 [] h15 (zUo h14) k
  obtain⟨h18,h⟩|⟨h18,h⟩:=spl h
  cases h
  exact fun j=>lF 0 [] (oB 0 h18 k)
  cases h
  exact fun j=>lF 0 [] (oB 0 h18 k)
  cases h
  exact fun j=>lF 1 [] (oK 0 [] h15 (zUo h14) k)
theorem yAP{qq p0 p1 r}(h:zQJ qq p0 p1=some r):Ct 215 [] [at' p0,ai p1] (.tup [ai r.1,ai r.2.1,ai r.2.2]) [] 0:=⟨by
 unfold zQJ at h
 obtain⟨h1,h⟩|⟨h1,h⟩:=spl h
 cases h
 exact tF zQK 0 [] (oB 0 h1 o0)
 have k:=oB 0 h1 o0
 obtain⟨h2,h⟩|⟨h2,h⟩:=spl h
 cases h
 exact tF zQK 0 [] (oB 1 h2 k)
 obtain⟨x3,h4,h⟩:=zC h
 obtain⟨r5,h6,h⟩:=zC h
 have k:=oC 0 [] (yAN h6)<|oA 0 (zPZ h4)<|oB 1 h2 k
 obtain⟨h7,h⟩|⟨h7,h⟩:=spl h
 cases h
 exact tF zQK 0 [] (oB 2 h7 k)
 have k:=oB 2 h7 k
 obtain⟨h8,h⟩|⟨h8,h⟩:=spl h
 cases h
 exact tF zQK 0 [] (oB 2 h8 k)
 exact tH zQK 0 [] [] [] [0,1,7,8,9] (oB 2 h8 k) (zUm _ _ _ _ _ _ _ h),⟨tv,tv,tv⟩,zB,⟨tv,tv,tv,tv⟩,zB⟩
def kD:Nat->ByteArray->List Int->Int->Option (List Int×Int×Int)
 |0,_,_,_=>none
 |qq+1,p0,v5,v6=>
 if decide (v6<(p0.size:Int))then
 zQJ qq p0 v6>>=fun r3=>
 if r3.2.2 != 0 then
 some ([],v6,r3.2.2)
 else
 yT 8 v5 [r3.1]>>=fun l6=>
 kD qq p0 l6 (w64 (v6+r3.2.1))
 else
 some (v5,(p0.size:Int),0)
def zQL(qq:Nat)(p0:ByteArray):Option (List Int×Int×Int):=
 if decide ((p0.size:Int)>65535)then
 some ([],0,2)
 else
 kD qq p0 [] 0
theorem zZq:Qf 185 Tryz.f185:=⟨Tryz.func185,rfl⟩
theorem zUl:∀qq:Nat,(∀p0 v5 v6 r,kD qq p0 v5 v6=some r->(∀j,dL 0 (inn (inn (rgt (lft (rgt (rgt (rgt (bod Tryz.f185)))))))) (sp j 38 0 [(0,at' p0),(5,slv zV v5 (.st 0 1)),(6,ai v6)]) (⟨[],0,[0],1,[]⟩) (fQ 0 (nQ 0 Tryz.f185 (.tup [.sl (zJ zV r.1) r.1.length .no,ai r.2.1,ai r.2.2]) [] 0) [.blk 0,.seq (rgt (rgt (rgt (rgt (bod Tryz.f185)))))]))):=by
 intro qq
 induction qq with
 |zero=>
  exact fun _ _ _ _ h=>nn h
 |succ qq ih=>
  intro p0 v5 v6 r h
  rw[kD]at h
  obtain⟨h2,h⟩|⟨h2,h⟩:=spl h
  obtain⟨r3,h4,h⟩:=zC h
  have k:=oC 0 [] (yAP h4)<|oB 1 h2 o0
  obtain⟨h5,h⟩|⟨h5,h⟩:=spl h
  cases h
  exact fun j=>lF 0 [] (oD (dI ([]:List Int))<|oB 3 h5 k)
  obtain⟨l6,h7,h⟩:=zC h
  exact fun j=>lH 1 [] [] [1] [0,5,6] (oD (dI l6)<|oP 1 (mI h7 (by simp))<|oB 3 h5 k) (ih _ _ _ _ h)
  cases h
  exact fun j=>lF 1 [] (oD (dI v5)<|oB 1 h2 o0)
theorem yAQ{qq p0 r}(h:zQL qq p0=some r):Ct 185 [] [at' p0] (.tup [.sl (zJ zV r.1) r.1.length .no,ai r.2.1,ai r.2.2]) [] 0:=⟨by
 unfold zQL at h
 obtain⟨h1,h⟩|⟨h1,h⟩:=spl h
 cases h
 exact tF zZq 0 [] (oD (dI ([]:List Int))<|oB 1 h1 o0)
 exact tH zZq 0 [(none,5,1)] [] [0] [0,5,6] (oD (dI ([]:List Int))<|oB 1 h1 o0) (zUl _ _ _ _ _ h),⟨tv,tv⟩,zB,⟨dI _,tv,tv,tv⟩,zB⟩
def zQM(qq:Nat)(p0:ByteArray):Option Bool:=
 if p0.toList==(⟨#[100,97,116,97]⟩:ByteArray).toList then
 some true
 else
 if p0.toList==(⟨#[114,101,99,111,114,100]⟩:ByteArray).toList then
 some true
 else
 if p0.toList==(⟨#[100,101,102]⟩:ByteArray).toList then
 some true
 else
 if p0.toList==(⟨#[83,101,116]⟩:ByteArray).toList then
 some true
 else
 some false
theorem zQN:Qf 186 Tryz.f186:=⟨Tryz.func186,rfl⟩
theorem zZp{qq p0 r}(h:zQM qq p0=some r):Ct 186 [] [at' p0] (ab r) [] 0:=⟨by
 unfold zQM at h
 obtain⟨h1,h⟩|⟨h1,h⟩:=spl h
 cases h
 exact tF zQN 0 [] (oB 0 h1 o0)
 have k:=oB 0 h1 o0
 obtain⟨h2,h⟩|⟨h2,h⟩:=spl h
 cases h
 exact tF zQN 0 [] (oB 0 h2 k)
 have k:=oB 0 h2 k
 obtain⟨h3,h⟩|⟨h3,h⟩:=spl h
 cases h
 exact tF zQN 0 [] (oB 0 h3 k)
 have k:=oB 0 h3 k
 obtain⟨h4,h⟩|⟨h4,h⟩:=spl h
 cases h
 exact tF zQN 0 [] (oB 0 h4 k)
 cases h
 exact tF zQN 0 [] (oB 0 h4 k),⟨tv,tv⟩,zB,tv,zB⟩
def zQO(qq:Nat)(p0:Int):Option Bool:=
 if p0==40 then
 some true
 else
 if p0==41 then
 some true
 else
 if p0==123 then
 some true
 else
 if p0==125 then
 some true
 else
 if p0==58 then
 some true
 else
 if p0==61 then
 some true
 else
 if p0==46 then
 some true
 else
 if p0==44 then
 some true
 else
 if p0==59 then
 some true
 else
 if p0==124 then
 some true
 else
 if p0==92 then
 some true
 else
 if p0==45 then
 some true
 else
 if p0==62 then
 some true
 else
 if p0==955 then
 some true
 else
 if p0==8594 then
 some true
 else
 some false
theorem fH:Qf 218 Tryz.f218:=⟨Tryz.func218,rfl⟩
theorem zZo{qq p0 r}(h:zQO qq p0=some r):Ct 218 [] [ai p0] (ab r) [] 0:=⟨by
 unfold zQO at h
 obtain⟨h1,h⟩|⟨h1,h⟩:=spl h
 cases h
 exact tF fH 0 [] (oB 0 h1 o0)
 have k:=oB 0 h1 o0
 obtain⟨h2,h⟩|⟨h2,h⟩:=spl h
 cases h
 exact tF fH 0 [] (oB 0 h2 k)
 have k:=oB 0 h2 k
 obtain⟨h3,h⟩|⟨h3,h⟩:=spl h
 cases h
 exact tF fH 0 [] (oB 0 h3 k)
 have k:=oB 0 h3 k
 obtain⟨h4,h⟩|⟨h4,h⟩:=spl h
 cases h
 exact tF fH 0 [] (oB 0 h4 k)
 have k:=oB 0 h4 k
 obtain⟨h5,h⟩|⟨h5,h⟩:=spl h
 cases h
 exact tF fH 0 [] (oB 0 h5 k)
 have k:=oB 0 h5 k
 obtain⟨h6,h⟩|⟨h6,h⟩:=spl h
 cases h
 exact tF fH 0 [] (oB 0 h6 k)
 have k:=oB 0 h6 k
 obtain⟨h7,h⟩|⟨h7,h⟩:=spl h
 cases h
 exact tF fH 0 [] (oB 0 h7 k)
 have k:=oB 0 h7 k
 obtain⟨h8,h⟩|⟨h8,h⟩:=spl h
 cases h
 exact tF fH 0 [] (oB 0 h8 k)
 have k:=oB 0 h8 k
 obtain⟨h9,h⟩|⟨h9,h⟩:=spl h
 cases h
 exact tF fH 0 [] (oB 0 h9 k)
 have k:=oB 0 h9 k
 obtain⟨h10,h⟩|⟨h10,h⟩:=spl h
 cases h
 exact tF fH 0 [] (oB 0 h10 k)
 have k:=oB 0 h10 k
 obtain⟨h11,h⟩|⟨h11,h⟩:=spl h
 cases h
 exact tF fH 0 [] (oB 0 h11 k)
 have k:=oB 0 h11 k
 obtain⟨h12,h⟩|⟨h12,h⟩:=spl h
 cases h
 exact tF fH 0 [] (oB 0 h12 k)
 have k:=oB 0 h12 k
 obtain⟨h13,h⟩|⟨h13,h⟩:=spl h
 cases h
 exact tF fH 0 [] (oB 0 h13 k)
 have k:=oB 0 h13 k
 obtain⟨h14,h⟩|⟨h14,h⟩:=spl h
 cases h
 exact tF fH 0 [] (oB 0 h14 k)
 have k:=oB 0 h14 k
 obtain⟨h15,h⟩|⟨h15,h⟩:=spl h
 cases h
 exact tF fH 0 [] (oB 0 h15 k)
 cases h
 exact tF fH 0 [] (oB 0 h15 k),⟨tv,tv⟩,zB,tv,zB⟩
def zNY(qq:Nat)(p0:Int):Option Bool:=
 if decide (p0<128)then
 if decide (p0≥97)then
 if decide (p0≤122)then
 some true
 else
 if decide (p0≥65)then
 some (decide (p0≤90))
 else
 some false
 else
 if decide (p0≥65)then
 some (decide (p0≤90))
 else
 some false
 else
 zNX qq p0>>=fun r6=>
 if r6 then
 zQO qq p0>>=fun r9=>
 if r9 then
 some false
 else
 if p0 != 160 then
 if decide (p0<8192)then
 some true
 else
 some (decide (p0>8303))
 else
 some false
 else
 some false
theorem zEy:Qf 188 Tryz.f188:=⟨Tryz.func188,rfl⟩
theorem zUk{qq p0 r}(h:zNY qq p0=some r):Ct 188 [] [ai p0] (ab r) [] 0:=⟨by
 unfold zNY at h
 obtain⟨h1,h⟩|⟨h1,h⟩:=spl h
 have k:=oB 0 h1 o0
 obtain⟨h2,h⟩|⟨h2,h⟩:=spl h
 have k:=oB 0 h2 k
 obtain⟨h3,h⟩|⟨h3,h⟩:=spl h
 cases h
 exact tF zEy 0 [] (oB 0 h3 k)
 have k:=oB 0 h3 k
 obtain⟨h4,h⟩|⟨h4,h⟩:=spl h
 cases h
 exact tF zEy 1 [] (oB 0 h4 k)
 cases h
 exact tF zEy 0 [] (oB 0 h4 k)
 have k:=oB 0 h2 k
 obtain⟨h5,h⟩|⟨h5,h⟩:=spl h
 cases h
 exact tF zEy 1 [] (oB 0 h5 k)
 cases h
 exact tF zEy 0 [] (oB 0 h5 k)
 obtain⟨r6,h7,h⟩:=zC h
 have k:=oB 0 h1 o0
 obtain⟨h8,h⟩|⟨h8,h⟩:=spl h
 obtain⟨r9,h10,h⟩:=zC h
 have k:=oK 0 [] h8 (zUo h7) k
 obtain⟨h11,h⟩|⟨h11,h⟩:=spl h
 cases h
 exact tF zEy 1 [] (oK 0 [] h11 (zZo h10) k)
 have k:=oK 0 [] h11 (zZo h10) k
 obtain⟨h12,h⟩|⟨h12,h⟩:=spl h
 have k:=oB 1 h12 k
 obtain⟨h13,h⟩|⟨h13,h⟩:=spl h
 cases h
 exact tF zEy 0 [] (oB 0 h13 k)
 cases h
 exact tF zEy 1 [] (oB 0 h13 k)
 cases h
 exact tF zEy 0 [] (oB 1 h12 k)
 cases h
 exact tF zEy 0 [] (oK 0 [] h8 (zUo h7) k),⟨tv,tv⟩,zB,tv,zB⟩
def zQP(qq:Nat)(p0:Int):Option Bool:=
 if decide (p0≥48)then
 some (decide (p0≤57))
 else
 some false
theorem zZn:Qf 216 Tryz.f216:=⟨Tryz.func216,rfl⟩
theorem zZm{qq p0 r}(h:zQP qq p0=some r):Ct 216 [] [ai p0] (ab r) [] 0:=⟨by
 unfold zQP at h
 obtain⟨h1,h⟩|⟨h1,h⟩:=spl h
 cases h
 exact tF zZn 1 [] (oB 0 h1 o0)
 cases h
 exact tF zZn 0 [] (oB 0 h1 o0),⟨tv,tv⟩,zB,tv,zB⟩
def zQQ(qq:Nat)(p0:Int):Option Bool:=
 zNY qq p0>>=fun r1=>
 if r1 then
 some true
 else
 zQP qq p0>>=fun r4=>
 if r4 then
 some true
 else
 if p0==95 then
 some true
 else
 some (p0==39)
theorem zUj:Qf 187 Tryz.f187:=⟨Tryz.func187,rfl⟩
theorem zZl{qq p0 r}(h:zQQ qq p0=some r):Ct 187 [] [ai p0] (ab r) [] 0:=⟨by
 unfold zQQ at h
 obtain⟨r1,h2,h⟩:=zC h
 obtain⟨h3,h⟩|⟨h3,h⟩:=spl h
 cases h
 exact tF zUj 0 [] (oK 0 [] h3 (zUk h2) o0)
 obtain⟨r4,h5,h⟩:=zC h
 have k:=oK 0 [] h3 (zUk h2) o0
 obtain⟨h6,h⟩|⟨h6,h⟩:=spl h
 cases h
 exact tF zUj 0 [] (oK 0 [] h6 (zZm h5) k)
 have k:=oK 0 [] h6 (zZm h5) k
 obtain⟨h7,h⟩|⟨h7,h⟩:=spl h
 cases h
 exact tF zUj 0 [] (oB 0 h7 k)
 cases h
 exact tF zUj 1 [] (oB 0 h7 k),⟨tv,tv⟩,zB,tv,zB⟩
def kE:Nat->(List Int×Int×Int)->Int->Option Bool
 |0,_,_=>none
 |qq+1,r1,v32=>
 if decide (v32<(r1.1.length:Int))then
 zR r1.1 v32>>=fun x10=>
 zQQ qq x10>>=fun r12=>
 if r12 then
 kE qq r1 (w64 (v32+1))
 else
 some false
 else
 zR r1.1 0>>=fun x15=>
 zNY qq x15>>=fun r17=>
 if r17 then
 some true
 else
 if x15==95 then
 some (decide ((r1.1.length:Int)>1))
 else
 some false
def zKl(qq:Nat)(p0:ByteArray):Option Bool:=
 zQL qq p0>>=fun r1=>
 if r1.2.2 != 0 then
 some false
 else
 if (r1.1.length:Int)==0 then
 some false
 else
 if decide ((p0.size:Int)>40)then
 some false
 else
 zQM qq p0>>=fun r6=>
 if r6 then
 some false
 else
 kE qq r1 0
theorem zQR:Qf 152 Tryz.f152:=⟨Tryz.func152,rfl⟩
theorem zUi:∀qq:Nat,(∀r1 v32 r,kE qq r1 v32=some r->(∀j,dL 0 (inn (inn (rgt (lft (rgt (rgt (rgt (bod Tryz.f152)))))))) (sp j 55 0 [(3,slv zV r1.1 .no),(30,slv zV r1.1 .no),(31,ai (r1.1.length:Int)),(32,ai v32)]) (⟨[],0,[],0,[]⟩) (fQ 0 (nQ 0 Tryz.f152 (ab r) [] 0) [.blk 0,.seq (rgt (rgt (rgt (rgt (bod Tryz.f152)))))]))):=by
 intro qq
 induction qq with
 |zero=>
  exact fun _ _ _ h=>nn h
 |succ qq ih=>
  intro r1 v32 r h
  rw[kE]at h
  obtain⟨h9,h⟩|⟨h9,h⟩:=spl h
  obtain⟨x10,h11,h⟩:=zC h
  obtain⟨r12,h13,h⟩:=zC h
  have k:=oA 0 (fD (o:=.no) h11)<|oB 0 h9 o0
  obtain⟨h14,h⟩|⟨h14,h⟩:=spl h
  exact fun j=>lH 2 [] [] [] [3,30,31,32] (oD (dI r1.1)<|oD (dI r1.1)<|oK 1 [] h14 (zZl h13) k) (ih _ _ _ h)
  cases h
  exact fun j=>lF 1 [] (oK 1 [] h14 (zZl h13) k)
  obtain⟨x15,h16,h⟩:=zC h
  obtain⟨r17,h18,h⟩:=zC h
  have k:=oA 0 (fD (o:=.no) h16)<|oB 0 h9 o0
  obtain⟨h19,h⟩|⟨h19,h⟩:=spl h
  cases h
  exact fun j=>lF 0 [] (oK 1 [] h19 (zUk h18) k)
  have k:=oA 0 (fD (o:=.no) h16)<|oK 1 [] h19 (zUk h18) k
  obtain⟨h20,h⟩|⟨h20,h⟩:=spl h
  cases h
  exact fun j=>lF 2 [] (oB 1 h20 k)
  cases h
  exact fun j=>lF 0 [] (oB 1 h20 k)
theorem zZk{qq p0 r}(h:zKl qq p0=some r):Ct 152 [] [at' p0] (ab r) [] 0:=⟨by
 unfold zKl at h
 obtain⟨r1,h2,h⟩:=zC h
 have k:=oC 0 [] (yAQ h2) o0
 obtain⟨h3,h⟩|⟨h3,h⟩:=spl h
 cases h
 exact tF zQR 0 [] (oB 3 h3 k)
 have k:=oB 3 h3 k
 obtain⟨h4,h⟩|⟨h4,h⟩:=spl h
 cases h
 exact tF zQR 0 [] (oB 1 h4 k)
 have k:=oB 1 h4 k
 obtain⟨h5,h⟩|⟨h5,h⟩:=spl h
 cases h
 exact tF zQR 0 [] (oB 1 h5 k)
 obtain⟨r6,h7,h⟩:=zC h
 have k:=oB 1 h5 k
 obtain⟨h8,h⟩|⟨h8,h⟩:=spl h
 cases h
 exact tF zQR 0 [] (oK 0 [] h8 (zZp h7) k)
 exact tH zQR 1 [] [] [] [3,30,31,32] (oD (dI r1.1)<|oD (dI r1.1)<|oK 0 [] h8 (zZp h7) k) (zUi _ _ _ _ h),⟨tv,tv⟩,zB,tv,zB⟩
theorem zQS(c:Int):Tot (fun q=>zQH q c) fun r=>0≤r.1∧r.1≤4:=by
 simp only[zQH]
 repeat' (first|exact Tot.ret ⟨by simp,by simp⟩|refine Tot.ite (fun _=>?_) (fun _=>?_))
theorem zNZ(n:Int):Tot (fun q=>zQI q n) fun _=>True:=by
 simp only[zQI]
 repeat' (first|exact Tot.ret trivial|refine Tot.ite (fun _=>?_) (fun _=>?_))
theorem zCS(n:Int):Tot (fun q=>zNX q n) fun _=>True:=by
 simp only[zNX]
 repeat' (first|exact Tot.ret trivial|refine Tot.ite (fun _=>?_) (fun _=>?_))
theorem zHW{s:ByteArray}{i:Int}(h0:0≤i)(h1:i<s.size):∃c,zCb s i=some c:=by
 unfold zCb
 simp[h0,h1]
theorem zOz(s:ByteArray)(a:Int)(w:Int×Int)(ha:0≤a)(hs:s.size≤65535)(hw:a+w.1≤s.size)(hw1:1≤w.1):∀(m:Nat) (i n:Int),1≤i->i+m=w.1->Tot (fun q=>kC q s a w n i) fun r=>r.2.2=0->r.2.1=w.1:=by
 intro m
 induction m with
 |zero=>
  intro i n hi hm
  refine Tot.succ ?_
  simp only[kC]
  refine Tot.ite (fun h=>absurd (of_decide_eq_true h) (by omega)) fun _=>(zCS n).bind fun b _=>?_
  refine Tot.ite (fun _=>(zNZ n).bind fun c _=>Tot.ite (fun _=>Tot.ret (by simp)) fun _=>Tot.ret (by simp)) fun _=>Tot.ret (by simp)
 |succ m ih=>
  intro i n hi hm
  refine Tot.succ ?_
  simp only[kC]
  obtain⟨c,hc⟩:=zHW (s:=s) (i:=a+i) (by omega) (by omega)
  refine Tot.ite (fun _=>Tot.pure (a:=c) (by rw[yI (by omega) (by omega)];exact hc) (Tot.ite (fun _=>Tot.ret (by simp)) fun _=>?_)) fun h=>absurd (of_decide_eq_false h) (by omega)
  rw[yI (x:=i+1) (by omega) (by omega)]
  exact ih (i+1) _ (by omega) (by omega)
theorem zQT(s:ByteArray)(a:Int)(ha:0≤a)(hs:s.size≤65535):Tot (fun q=>zQJ q s a) fun r=>r.2.2=0->1≤r.2.1∧a+r.2.1≤s.size:=by
 simp only[zQJ]
 refine Tot.ite (fun _=>Tot.ret (by simp)) fun _=>Tot.ite (fun _=>Tot.ret (by simp)) fun h=>?_
 have h1:=of_decide_eq_false h
 obtain⟨c,hc⟩:=zHW (s:=s) (i:=a) ha (by omega)
 refine Tot.pure hc ((zQS c).bind fun w hw=>Tot.ite (fun _=>Tot.ret (by simp)) fun h2=>Tot.ite (fun _=>Tot.ret (by simp)) fun h3=>?_)
 have h4:=of_decide_eq_false h3
 rw[yI (by omega) (by omega)]at h4
 have h5:w.1≠0:=by simpa using h2
 refine(zOz s a w ha hs (by omega) (by omega) (w.1-1).toNat 1 w.2 (by omega) (by omega)).mono fun r hr h6=>?_
 have:=hr h6
 omega
theorem zQU(s:ByteArray)(hs:s.size≤65535):∀(m:Nat) (a:Int) (acc:List Int),0≤a->a≤s.size->(s.size:Int)-a≤m->(acc.length:Int)≤a->Tot (fun q=>kD q s acc a) fun r=>r.1.length≤65535:=by
 intro m
 induction m with
 |zero=>
  intro a acc h0 h1 hm hl
  refine Tot.succ ?_
  simp only[kD]
  refine Tot.ite (fun h=>absurd (of_decide_eq_true h) (by omega)) fun _=>Tot.ret (by show acc.length≤65535;omega)
 |succ m ih=>
  intro a acc h0 h1 hm hl
  refine Tot.succ ?_
  simp only[kD]
  refine Tot.ite (fun _=>(zQT s a h0 hs).bind fun r hr=>Tot.ite (fun _=>Tot.ret (by simp)) fun h=>Tot.pure (yG (by simp<;>omega)) ?_) fun _=>Tot.ret (by show acc.length≤65535;omega)
  have:=hr (by simpa using h)
  rw[yI (by omega) (by omega)]
  exact ih (a+r.2.1) _ (by omega) (by omega) (by omega) (by simp;omega)
theorem zUh(s:ByteArray):Tot (fun q=>zQL q s) fun r=>r.1.length≤65535:=by
 simp only[zQL]
 refine Tot.ite (fun _=>Tot.ret (by simp)) fun h=>?_
 have:=of_decide_eq_false h
 exact zQU s (by omega) s.size 0 [] (by omega) (by omega) (by omega) (by simp)
theorem zQV(n:Int):Tot (fun q=>zQO q n) fun _=>True:=by
 simp only[zQO]
 repeat' (first|exact Tot.ret trivial|refine Tot.ite (fun _=>?_) (fun _=>?_))
theorem zCT(n:Int):Tot (fun q=>zNY q n) fun _=>True:=by
 simp only[zNY]
 repeat' (first|exact Tot.ret trivial|refine Tot.ite (fun _=>?_) (fun _=>?_)|refine Tot.bind (zCS n) (fun _ _=>?_)|refine Tot.bind (zQV n) (fun _ _=>?_))
theorem zOy(n:Int):Tot (fun q=>zQP q n) fun _=>True:=by
 simp only[zQP]
 repeat' (first|exact Tot.ret trivial|refine Tot.ite (fun _=>?_) (fun _=>?_))
theorem zOx(n:Int):Tot (fun q=>zQQ q n) fun _=>True:=by
 simp only[zQQ]
 repeat' (first|exact Tot.ret trivial|refine Tot.ite (fun _=>?_) (fun _=>?_)|refine Tot.bind (zCT n) (fun _ _=>?_)|refine Tot.bind (zOy n) (fun _ _=>?_))
theorem zHX(s:ByteArray):Tot (fun q=>zQM q s) fun _=>True:=by
 simp only[zQM]
 repeat' (first|exact Tot.ret trivial|refine Tot.ite (fun _=>?_) (fun _=>?_))
theorem zBu(r1:List Int×Int×Int)(h0:0<r1.1.length)(h1:r1.1.length≤65535):∀(l:List Int) (v:Nat),r1.1.drop v=l->Tot (fun q=>kE q r1 (v:Int)) fun _=>True
 | [],v,hd=>by
  refine Tot.succ ?_
  simp only[kE]
  obtain⟨y,hy⟩:∃y,zR r1.1 0=some y:=⟨_,by unfold zR;rw[if_pos (by omega)];exact List.getElem?_eq_getElem h0⟩
  refine Tot.ite (fun h=>?_) fun _=>Tot.pure hy ?_
  ·rw[yC hd]at h;cases h
  ·repeat' (first|exact Tot.ret trivial|refine Tot.ite (fun _=>?_) (fun _=>?_)|refine Tot.bind (zCT y) (fun _ _=>?_))
 |x::l,v,hd=>by
  have hlt:=yE hd
  refine Tot.succ ?_
  simp only[kE]
  refine Tot.ite (fun _=>Tot.pure (zX hd) ((zOx x).bind fun b _=>Tot.ite (fun _=>?_) fun _=>Tot.ret trivial)) fun h=>?_
  ·rw[zU v (by omega)]
   exact zBu r1 h0 h1 l (v+1) (zS hd)
  ·rw[yB hd]at h;cases h
theorem zKk(s:ByteArray):Tot (fun q=>zKl q s) fun _=>True:=by
 simp only[zKl]
 refine(zUh s).bind fun r hr=>Tot.ite (fun _=>Tot.ret trivial) fun _=>Tot.ite (fun _=>Tot.ret trivial) fun h=>Tot.ite (fun _=>Tot.ret trivial) fun _=>(zHX s).bind fun _ _=>Tot.ite (fun _=>Tot.ret trivial) fun _=>?_
 exact zBu r (by simp at h;exact List.length_pos_iff.2 h) hr r.1 0 rfl
theorem fT:∀(r l:List ByteArray) (v:Nat) (m:List (ByteArray×Int)),l.drop v=r->l.length≤65535->Tot (fun q=>kB q l (v:Int) m) fun _=>True
 | [],l,v,m,hd,hl=>by
  refine Tot.succ ?_
  simp only[kB]
  refine Tot.ite (fun h=>?_) fun _=>Tot.ret trivial
  rw[yC hd]at h;cases h
 |x::r,l,v,m,hd,hl=>by
  have hlt:=yE hd
  refine Tot.succ ?_
  simp only[kB]
  refine Tot.ite (fun _=>Tot.pure (zX hd) (Tot.ite (fun _=>Tot.ret trivial) fun _=>?_)) fun h=>?_
  ·rw[zU v (by omega)]
   exact fT r l (v+1) _ (zS hd) hl
  ·rw[yB hd]at h;cases h
theorem zFT(l:List ByteArray)(hl:l.length≤65535):Tot (fun q=>zNW q l) fun _=>True:=by
 simp only[zNW]
 exact fT l l 0 _ rfl hl
def zOw(qq:Nat)(p0:Tm)(p1:Int):Option Bool:=
 zFL qq p0 0 p1>>=fun r1=>
 if r1 then
 zFM qq p0>>=fun r4=>
 some ((r4.length:Int)==0)
 else
 some false
theorem zZj:Qf 153 Tryz.f153:=⟨Tryz.func153,rfl⟩
theorem zUg{qq p0 p1 r}(h:zOw qq p0 p1=some r):Ct 153 [] [tmA p0,ai p1] (ab r) [] 0:=⟨by
 unfold zOw at h
 obtain⟨r1,h2,h⟩:=zC h
 obtain⟨h3,h⟩|⟨h3,h⟩:=spl h
 obtain⟨r4,h5,h⟩:=zC h
 cases h
 exact tF zZj 2 [] (oC 1 [] (zQl h5)<|oK 1 [] h3 (zHI h2) o0)
 cases h
 exact tF zZj 0 [] (oK 1 [] h3 (zHI h2) o0),⟨⟨tv,tv,⟨tv,dT _⟩,tv⟩,tv,tv⟩,zB,tv,zB⟩
def zOv(qq:Nat)(p0:Tm):Option Bool:=
 if p0.k==0 then
 if p0.n==0 then
 some ((p0.sub.length:Int)==0)
 else
 some false
 else
 some false
theorem zXz:Qf 189 Tryz.f189:=⟨Tryz.func189,rfl⟩
theorem zUf{qq p0 r}(h:zOv qq p0=some r):Ct 189 [] [tmA p0] (ab r) [] 0:=⟨by
 unfold zOv at h
 obtain⟨h1,h⟩|⟨h1,h⟩:=spl h
 have k:=oB 1 h1 o0
 obtain⟨h2,h⟩|⟨h2,h⟩:=spl h
 cases h
 exact tF zXz 3 [] (oB 1 h2 k)
 cases h
 exact tF zXz 0 [] (oB 1 h2 k)
 cases h
 exact tF zXz 0 [] (oB 1 h1 o0),⟨⟨tv,tv,⟨tv,dT _⟩,tv⟩,tv⟩,zB,tv,zB⟩
def kF:Nat->List Int->Int->Int->Option Bool
 |0,_,_,_=>none
 |qq+1,p0,p1,v9=>
 if decide (v9<(p0.length:Int))then
 zR p0 v9>>=fun x2=>
 if x2 != (w64 (p1+v9))then
 some false
 else
 kF qq p0 p1 (w64 (v9+1))
 else
 some true
def zOu(qq:Nat)(p0:List Int)(p1:Int):Option Bool:=
 kF qq p0 p1 0
theorem zUe:∀qq:Nat,(∀p0 p1 v9 r,kF qq p0 p1 v9=some r->(∀j,dL 0 (inn (inn (rgt (lft (rgt (bod Tryz.f191)))))) (sp j 20 0 [(1,ai p1),(7,slv zV p0 .no),(8,ai (p0.length:Int)),(9,ai v9)]) (⟨[],0,[],0,[]⟩) (fQ 0 (nQ 0 Tryz.f191 (ab r) [] 0) [.blk 0,.seq (rgt (rgt (bod Tryz.f191)))]))):=by
 intro qq
 induction qq with
 |zero=>
  exact fun _ _ _ _ h=>nn h
 |succ qq ih=>
  intro p0 p1 v9 r h
  rw[kF]at h
  obtain⟨h1,h⟩|⟨h1,h⟩:=spl h
  obtain⟨x2,h3,h⟩:=zC h
  have k:=oA 0 (fD (o:=.no) h3)<|oB 0 h1 o0
  obtain⟨h4,h⟩|⟨h4,h⟩:=spl h
  cases h
  exact fun j=>lF 0 [] (oB 2 h4 k)
  exact fun j=>lH 1 [] [] [] [1,7,8,9] (oD (dI p0)<|oB 2 h4 k) (ih _ _ _ _ h)
  cases h
  exact fun j=>lF 0 [] (oB 0 h1 o0)
theorem zUd{qq p0 p1 r}(h:zOu qq p0 p1=some r):Ct 191 [] [slv zV p0 .no,ai p1] (ab r) [] 0:=⟨by
 unfold zOu at h
 exact tH ⟨Tryz.func191,rfl⟩ 1 [] [] [] [1,7,8,9] (oD (dI p0) o0) (zUe _ _ _ _ _ h),⟨⟨tv,dI _⟩,tv,tv⟩,zB,tv,zB⟩
def zOt(qq:Nat)(p0:List Ent)(p1 p2:Int):Option Bool:=
 if decide (p1≥0)then
 if decide (p1<(p0.length:Int))then
 zR p0 p1>>=fun x3=>
 some (x3.kind==p2)
 else
 some false
 else
 some false
theorem zXy:Qf 195 Tryz.f195:=⟨Tryz.func195,rfl⟩
theorem zUc{qq p0 p1 p2 r}(h:zOt qq p0 p1 p2=some r):Ct 195 [] [slv yN p0 .no,ai p1,ai p2] (ab r) [] 0:=⟨by
 unfold zOt at h
 obtain⟨h1,h⟩|⟨h1,h⟩:=spl h
 have k:=oB 0 h1 o0
 obtain⟨h2,h⟩|⟨h2,h⟩:=spl h
 obtain⟨x3,h4,h⟩:=zC h
 cases h
 exact tF zXy 2 [] (oA 0 (xN (o:=.no) h4)<|oB 1 h2 k)
 cases h
 exact tF zXy 0 [] (oB 1 h2 k)
 cases h
 exact tF zXy 0 [] (oB 0 h1 o0),⟨⟨tv,dE _⟩,tv,tv,tv⟩,zB,tv,zB⟩
def kG:Nat->List Ent->Int->List Int->Int->Int->Option Bool
 |0,_,_,_,_,_=>none
 |qq+1,p0,p1,p2,p3,v13=>
 if decide (v13<(p2.length:Int))then
 zR p2 v13>>=fun x2=>
 zOt qq p0 x2 p3>>=fun r4=>
 if r4 then
 zR p0 x2>>=fun x7=>
 if x7.fam != p1 then
 some false
 else
 if x7.place != v13 then
 some false
 else
 kG qq p0 p1 p2 p3 (w64 (v13+1))
 else
 some false
 else
 some true
def zOs(qq:Nat)(p0:List Ent)(p1:Int)(p2:List Int)(p3:Int):Option Bool:=
 kG qq p0 p1 p2 p3 0
theorem zUb:∀qq:Nat,(∀p0 p1 p2 p3 v13 r,kG qq p0 p1 p2 p3 v13=some r->(∀j,dL 0 (inn (inn (rgt (lft (rgt (bod Tryz.f192)))))) (sp j 42 0 [(0,slv yN p0 .no),(1,ai p1),(3,ai p3),(11,slv zV p2 .no),(12,ai (p2.length:Int)),(13,ai v13)]) (⟨[],0,[],0,[]⟩) (fQ 0 (nQ 0 Tryz.f192 (ab r) [] 0) [.blk 0,.seq (rgt (rgt (bod Tryz.f192)))]))):=by
 intro qq
 induction qq with
 |zero=>
  exact fun _ _ _ _ _ _ h=>nn h
 |succ qq ih=>
  intro p0 p1 p2 p3 v13 r h
  rw[kG]at h
  obtain⟨h1,h⟩|⟨h1,h⟩:=spl h
  obtain⟨x2,h3,h⟩:=zC h
  obtain⟨r4,h5,h⟩:=zC h
  have k:=oA 0 (fD (o:=.no) h3)<|oB 0 h1 o0
  obtain⟨h6,h⟩|⟨h6,h⟩:=spl h
  obtain⟨x7,h8,h⟩:=zC h
  have k:=oA 1 (xN (o:=.no) h8)<|oK 1 [] h6 (zUc h5) k
  obtain⟨h9,h⟩|⟨h9,h⟩:=spl h
  cases h
  exact fun j=>lF 0 [] (oB 1 h9 k)
  have k:=oA 0 (xN (o:=.no) h8)<|oB 1 h9 k
  obtain⟨h10,h⟩|⟨h10,h⟩:=spl h
  cases h
  exact fun j=>lF 0 [] (oB 1 h10 k)
  exact fun j=>lH 1 [] [] [] [0,1,3,11,12,13] (oD (dI p2)<|oD (dE p0)<|oB 1 h10 k) (ih _ _ _ _ _ _ h)
  cases h
  exact fun j=>lF 1 [] (oK 1 [] h6 (zUc h5) k)
  cases h
  exact fun j=>lF 0 [] (oB 0 h1 o0)
theorem zUa{qq p0 p1 p2 p3 r}(h:zOs qq p0 p1 p2 p3=some r):Ct 192 [] [slv yN p0 .no,ai p1,slv zV p2 .no,ai p3] (ab r) [] 0:=⟨by
 unfold zOs at h
 exact tH ⟨Tryz.func192,rfl⟩ 1 [] [] [] [0,1,3,11,12,13] (oD (dI p2)<|oD (dE p0) o0) (zUb _ _ _ _ _ _ _ h),⟨⟨tv,dE _⟩,tv,⟨tv,dI _⟩,tv,tv⟩,zB,tv,zB⟩
def zQW(qq:Nat)(p0:List Ent)(p1:Int):Option Bool:=
 zR p0 p1>>=fun x1=>
 if decide (x1.pars<0)then
 some false
 else
 if decide (x1.inds<0)then
 some false
 else
 if decide (x1.pars>24)then
 some false
 else
 if decide (x1.inds>(w64 (24-x1.pars)))then
 some false
 else
 if x1.fam != 0 then
 some false
 else
 if x1.place != 0 then
 some false
 else
 zOv qq x1.body>>=fun r9=>
 if r9 then
 zCR qq x1.type (w64 (x1.pars+x1.inds))>>=fun r12=>
 if r12.2.2 != 0 then
 some false
 else
 if r12.2.1.k != 2 then
 some false
 else
 if r12.2.1.n != x1.level then
 some false
 else
 if decide ((x1.cons.length:Int)>16)then
 some false
 else
 zOu qq x1.cons (w64 (p1+1))>>=fun r18=>
 if r18 then
 zOs qq p0 p1 x1.cons 2>>=fun r21=>
 if r21 then
 if (x1.fields.length:Int)==0 then
 some true
 else
 if x1.inds != 0 then
 some false
 else
 if (x1.cons.length:Int) != 1 then
 some false
 else
 zOu qq x1.fields (w64 (p1+2))>>=fun r27=>
 if r27 then
 zOs qq p0 p1 x1.fields 4>>=fun r30=>
 if r30 then
 zR p0 (w64 (p1+1))>>=fun x33=>
 zHT qq x33.type>>=fun r35=>
 if r35.2.2==0 then
 some ((r35.1.length:Int)==(w64 (x1.pars+(x1.fields.length:Int))))
 else
 some false
 else
 some false
 else
 some false
 else
 some false
 else
 some false
 else
 some false
theorem mM:Qf 154 Tryz.f154:=⟨Tryz.func154,rfl⟩
theorem yAR{qq p0 p1 r}(h:zQW qq p0 p1=some r):Ct 154 [] [slv yN p0 .no,ai p1] (ab r) [] 0:=⟨by
 unfold zQW at h
 obtain⟨x1,h2,h⟩:=zC h
 have k:=oA 0 (xN (o:=.no) h2) o0
 obtain⟨h3,h⟩|⟨h3,h⟩:=spl h
 cases h
 exact tF mM 0 [] (oB 3 h3 k)
 have k:=oB 3 h3 k
 obtain⟨h4,h⟩|⟨h4,h⟩:=spl h
 cases h
 exact tF mM 0 [] (oB 1 h4 k)
 have k:=oB 1 h4 k
 obtain⟨h5,h⟩|⟨h5,h⟩:=spl h
 cases h
 exact tF mM 0 [] (oB 1 h5 k)
 have k:=oB 1 h5 k
 obtain⟨h6,h⟩|⟨h6,h⟩:=spl h
 cases h
 exact tF mM 0 [] (oB 3 h6 k)
 have k:=oB 3 h6 k
 obtain⟨h7,h⟩|⟨h7,h⟩:=spl h
 cases h
 exact tF mM 0 [] (oB 1 h7 k)
 have k:=oB 1 h7 k
 obtain⟨h8,h⟩|⟨h8,h⟩:=spl h
 cases h
 exact tF mM 0 [] (oB 1 h8 k)
 obtain⟨r9,h10,h⟩:=zC h
 have k:=oB 1 h8 k
 obtain⟨h11,h⟩|⟨h11,h⟩:=spl h
 obtain⟨r12,h13,h⟩:=zC h
 have k:=oC 5 [] (zQF h13)<|oK 1 [] h11 (zUf h10) k
 obtain⟨h14,h⟩|⟨h14,h⟩:=spl h
 cases h
 exact tF mM 0 [] (oB 4 h14 k)
 have k:=oB 4 h14 k
 obtain⟨h15,h⟩|⟨h15,h⟩:=spl h
 cases h
 exact tF mM 0 [] (oB 1 h15 k)
 have k:=oB 1 h15 k
 obtain⟨h16,h⟩|⟨h16,h⟩:=spl h
 cases h
 exact tF mM 0 [] (oB 2 h16 k)
 have k:=oB 2 h16 k
 obtain⟨h17,h⟩|⟨h17,h⟩:=spl h
 cases h
 exact tF mM 0 [] (oB 2 h17 k)
 obtain⟨r18,h19,h⟩:=zC h
 have k:=oB 2 h17 k
 obtain⟨h20,h⟩|⟨h20,h⟩:=spl h
 obtain⟨r21,h22,h⟩:=zC h
 have k:=oK 2 [] h20 (zUd h19) k
 obtain⟨h23,h⟩|⟨h23,h⟩:=spl h
 have k:=oK 2 [] h23 (zUa h22) k
 obtain⟨h24,h⟩|⟨h24,h⟩:=spl h
 cases h
 exact tF mM 0 [] (oB 3 h24 k)
 have k:=oB 3 h24 k
 obtain⟨h25,h⟩|⟨h25,h⟩:=spl h
 cases h
 exact tF mM 0 [] (oB 1 h25 k)
 have k:=oB 1 h25 k
 obtain⟨h26,h⟩|⟨h26,h⟩:=spl h
 cases h
 exact tF mM 0 [] (oB 2 h26 k)
 obtain⟨r27,h28,h⟩:=zC h
 have k:=oB 2 h26 k
 obtain⟨h29,h⟩|⟨h29,h⟩:=spl h
 obtain⟨r30,h31,h⟩:=zC h
 have k:=oK 2 [] h29 (zUd h28) k
 obtain⟨h32,h⟩|⟨h32,h⟩:=spl h
 obtain⟨x33,h34,h⟩:=zC h
 obtain⟨r35,h36,h⟩:=zC h
 have k:=oC 1 [] (zUu h36)<|oA 2 (xN (o:=.no) h34)<|oK 2 [] h32 (zUa h31) k
 obtain⟨h37,h⟩|⟨h37,h⟩:=spl h
 cases h
 exact tF mM 6 [] (oB 4 h37 k)
 cases h
 exact tF mM 0 [] (oB 4 h37 k)
 cases h
 exact tF mM 1 [] (oK 2 [] h32 (zUa h31) k)
 cases h
 exact tF mM 1 [] (oK 2 [] h29 (zUd h28) k)
 cases h
 exact tF mM 1 [] (oK 2 [] h23 (zUa h22) k)
 cases h
 exact tF mM 1 [] (oK 2 [] h20 (zUd h19) k)
 cases h
 exact tF mM 1 [] (oK 1 [] h11 (zUf h10) k),⟨⟨tv,dE _⟩,tv,tv⟩,zB,tv,zB⟩
end Go.Proofs.YtfbkefchjcocmaaGreat
