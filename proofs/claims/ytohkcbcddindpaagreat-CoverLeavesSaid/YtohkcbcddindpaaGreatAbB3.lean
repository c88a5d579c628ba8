/- Parts of the proof that the law returns true: walks of the functions, plain laws. -/
import Derived.ChangeArms
import Derived.ChangeShapes
import Derived.IntWalk
import Derived.Test.YtohkcbcddindpaaGreatAbB2
set_option linter.unusedVariables false
set_option linter.unusedSimpArgs false
set_option linter.unusedSectionVars false
namespace Go.Ab
open Go Go.RowKit
structure Sub(G G':Gh)(p:Nat->Prop):Prop where
 F:G'.F=G.F
 ρ:∀i b,p i->G.ρ i=some b->G'.ρ i=some b
 τ:∀k q,G.τ k=some q->G'.τ k=some q
 L:∀b o,G.L b o->G'.L b o
 N:∀i,p i->G.N i->G'.N i
mutual theorem V.less{G G':Gh}{w:World}{p:Nat->Prop}(h:Sub G G' p):∀(a:AV)(u:Value),a.fine p->V G w a u->V G' w a u
 |.val v,u,_,hv=>by simpa only[V]using hv|.agg cs,u,hi,hv=>by simp only[V,AV.fine]at hi hv⊢;obtain⟨vs,rfl,hl⟩:=hv;exact⟨vs,rfl,VL.less h cs vs hi hl⟩|.tup cs,u,hi,hv=>by simp only[V,AV.fine]at hi hv⊢;obtain⟨vs,rfl,hl⟩:=hv;exact⟨vs,rfl,VL.less h cs vs hi hl⟩|.sl es n o,u,hi,hv=>by
  simp only[V,AV.fine]at hi hv⊢;obtain⟨cap,hc,hh⟩:=hv;refine⟨cap,hc,?_⟩;rcases hh with⟨rfl,h2,h3,h4,h5⟩|⟨b,off,hu,hcells,ho⟩;·exact .inl ⟨rfl,h2,h3,h4,h5.mono h.τ⟩
  ·exact .inr ⟨b,off,hu,VC.data h.L es b off hi hcells,ho.mono h.F h.τ⟩|.ip es,u,hi,hv=>by simp only[V,AV.fine]at hi hv⊢;obtain⟨b,off,hu,hcells⟩:=hv;exact⟨b,off,hu,VC.data h.L es b off hi hcells⟩|.mp i off,u,hi,hv=>by simp only[V,AV.fine]at hi hv⊢;obtain⟨b,hb,hu⟩:=hv;exact⟨b,h.ρ _ _ hi hb,hu⟩|.ms i off n c sz,u,hi,hv=>by
  simp only[V,AV.fine]at hi hv⊢;rcases hv with⟨b,cap,hb,hu⟩|⟨hn,hN,hu⟩;·exact .inl ⟨b,cap,h.ρ _ _ hi hb,hu⟩
  ·exact .inr ⟨hn,h.N _ hi hN,hu⟩|.obj i,u,hi,hv=>by simp only[V,AV.fine]at hi hv⊢;obtain⟨b,hb,hu⟩:=hv;exact⟨b,h.ρ _ _ hi hb,hu⟩|.clo g fs cs,u,hi,hv=>by simp only[V,AV.fine]at hi hv⊢;obtain⟨l,r',hu,h1,h2⟩:=hv;exact⟨l,r',hu,VL.less h fs l hi.1 h1,VL.less h cs r' hi.2 h2⟩theorem VL.less{G G':Gh}{w:World}{p:Nat->Prop}(h:Sub G G' p):∀(as0:List AV)(us:List Value),AV.fineL p as0->VL G w as0 us->VL G' w as0 us|[],[],_,_=>by simp only[VL]|a::as0,u::us,hi,hv=>by simp only[VL,AV.fineL]at hi hv⊢;exact⟨V.less h a u hi.1 hv.1,VL.less h as0 us hi.2 hv.2⟩|[],_::_,_,hv=>by simp only[VL]at hv|_::_,[],_,hv=>by simp only[VL]at hv end
mutual def AV.fz(m:Nat)(cs:List AV):AV->AV|.val v=>.val v|.agg l=>.agg (AV.fzL m cs l)|.tup l=>.tup (AV.fzL m cs l)|.sl es n o=>.sl es n o|.ip es=>.ip es|.mp i off=>.mp i off|.ms i off n c sz=>bif Nat.beq i m then .sl (cs.drop off) n .no else .ms i off n c sz|.obj i=>.obj i|.clo g a b=>.clo g a b def AV.fzL(m:Nat)(cs:List AV):List AV->List AV|[]=>[]|a::l=>AV.fz m cs a::AV.fzL m cs l end
mutual def AV.fzOk(m:Nat):AV->Prop|.val _=>True|.agg l=>AV.fzOkL m l|.tup l=>AV.fzOkL m l|.sl es _ _=>AV.DataL es|.ip es=>AV.DataL es|.mp i _=>i<m|.ms i off _ _ _=>(i=m/\off=0)\/i<m|.obj i=>i<m|.clo _ a b=>AV.fineL (λi=>i<m) a/\AV.fineL (λi=>i<m) b def AV.fzOkL(m:Nat):List AV->Prop|[]=>True|a::l=>AV.fzOk m a/\AV.fzOkL m l end
theorem zAz:∀(l:List AV)(n:Nat),AV.DataL l->AV.DataL (l.drop n)|l,0,h=>by simpa using h|[],_+1,_=>trivial|_::l,n+1,h=>by simpa using zAz l n h.2
mutual theorem AV.fz_fine{m:Nat}{cs:List AV}(hc:AV.DataL cs):∀a:AV,a.fzOk m->(a.fz m cs).fine (λi=>i<m)
 |.val _,_=>trivial|.agg l,h=>AV.fzL_fine hc l h|.tup l,h=>AV.fzL_fine hc l h|.sl _ _ _,h=>h|.ip _,h=>h|.mp _ _,h=>h|.ms i off n c sz,h=>by simp only[AV.fz];cases hb:Nat.beq i m with|true=>exact zAz _ _ hc|false=>
  rcases h with⟨rfl,_⟩|h;·simp at hb
  ·exact h|.obj _,h=>h|.clo _ _ _,h=>h theorem AV.fzL_fine{m:Nat}{cs:List AV}(hc:AV.DataL cs):∀l:List AV,AV.fzOkL m l->AV.fineL (λi=>i<m) (AV.fzL m cs l)|[],_=>trivial|a::l,h=>⟨AV.fz_fine hc a h.1,AV.fzL_fine hc l h.2⟩end
mutual theorem V.fz{G G':Gh}{w:World}{m:Nat}{cs:List AV}(h:Sub G G' (λi=>i<m))(hm:∀b,G.ρ m=some b->VC G' w cs b 0)(hc:G.N m->cs=[]):∀(a:AV)(u:Value),a.fzOk m->V G w a u->V G' w (a.fz m cs) u
 |.val v,u,_,hv=>by simpa only[AV.fz,V]using hv|.agg l,u,hi,hv=>by simp only[V,AV.fzOk,AV.fz]at hi hv⊢;obtain⟨vs,rfl,hl⟩:=hv;exact⟨vs,rfl,VL.fz h hm hc l vs hi hl⟩|.tup l,u,hi,hv=>by simp only[V,AV.fzOk,AV.fz]at hi hv⊢;obtain⟨vs,rfl,hl⟩:=hv;exact⟨vs,rfl,VL.fz h hm hc l vs hi hl⟩|.sl es n o,u,hi,hv=>V.less h (.sl es n o) u hi hv|.ip es,u,hi,hv=>V.less h (.ip es) u hi hv|.mp i off,u,hi,hv=>V.less h (.mp i off) u hi hv|.ms i off n c sz,u,hi,hv=>by simp only[AV.fz];cases hb:Nat.beq i m with
  |false=>
   rcases hi with⟨rfl,_⟩|hi;·simp at hb
   ·exact V.less h (.ms i off n c sz) u hi hv|true=>
   have:=Nat.eq_of_beq_eq_true hb;subst this;simp only[V,cond_true]at hv⊢;rcases hi with⟨_,e0⟩|hi
   ·subst e0;rcases hv with⟨b,cap,hb',hn,o,rfl,hro⟩|⟨⟨e1,_⟩,hN,p,rfl⟩
    ·rcases hro with⟨eo,_⟩|⟨_,h0⟩
     ·subst eo;exact⟨cap,Nat.le_trans hn.1 hn.2,.inr ⟨b,_,rfl,by simpa using hm b hb',trivial⟩⟩
     ·exact absurd h0 (Nat.lt_irrefl _)
    ·rw[hc hN];subst e1;exact⟨0,Nat.le_refl 0,.inl ⟨rfl,(by first|rfl|trivial),(by first|rfl|trivial),rfl,trivial⟩⟩
   ·exact absurd hi (Nat.lt_irrefl _)
 |.obj i,u,hi,hv=>V.less h (.obj i) u hi hv|.clo g a b,u,hi,hv=>V.less h (.clo g a b) u hi hv theorem VL.fz{G G':Gh}{w:World}{m:Nat}{cs:List AV}(h:Sub G G' (λi=>i<m))(hm:∀b,G.ρ m=some b->VC G' w cs b 0)(hc:G.N m->cs=[]):∀(as0:List AV)(us:List Value),AV.fzOkL m as0->VL G w as0 us->VL G' w (AV.fzL m cs as0) us|[],[],_,_=>by simp only[AV.fzL,VL]|a::as0,u::us,hi,hv=>by simp only[VL,AV.fzOkL,AV.fzL]at hi hv⊢;exact⟨V.fz h hm hc a u hi.1 hv.1,VL.fz h hm hc as0 us hi.2 hv.2⟩|[],_::_,_,hv=>by simp only[VL]at hv|_::_,[],_,hv=>by simp only[VL]at hv end
def zGq(m:Nat):List (Nat×yL)->List (Nat×yL)|[]=>[]|p::l=>bif Nat.blt p.1 m then p::zGq m l else zGq m l
theorem cB{m:Nat}:∀(l:List (Nat×yL))(i:Nat),look (zGq m l) i=if i<m then look l i else none|[],i=>by simp[zGq,look]|p::l,i=>by simp only[zGq];cases hb:Nat.blt p.1 m with
 |true=>have hb':p.1<m:=Nat.le_of_ble_eq_true hb;simp only[cond_true,look,cB l i];cases he:Nat.beq i p.1 with|true=>have:=Nat.eq_of_beq_eq_true he;simp only[cond_true];rw[if_pos (by omega)]|false=>simp only[cond_false]
 |false=>
  have hb':¬p.1<m:=by intro h;rw[Nat.blt,Nat.ble_eq_true_of_le h]at hb;cases hb
  simp only[cond_false,look,cB l i];cases he:Nat.beq i p.1 with|true=>have:=Nat.eq_of_beq_eq_true he;rw[if_neg (by omega),if_neg (by omega)]|false=>simp only[cond_false]
def yL.alive:yL->Bool|.dead=>false|_=>true
theorem uS.freeze{P:Program}{f:FuncId}{H0 H1:List yL}{args cs:List AV}{res:AV}{nst:Nat}(h:uS P f H0 args res (H1++[.row cs]) nst)(hle:H0.length<=H1.length)(hH1:∀X∈H1,X.fine (λi=>i<H1.length))(hcs:AV.DataL cs)(hr:res.fzOk H1.length)(hnd:H1.all yL.alive=true):uS P f H0 args (res.fz H1.length cs) H1 nst:=by
 intro G0 W cargs hB hR hv;refine(h G0 W cargs hB hR hv).mono ?_;rintro e W'⟨u,G',s',rfl,hE,hR',hu,hb,ho⟩;have hm:look s'.H H1.length=some (.row cs):=hb H1.length _ (by simp);have hm':(xD (uI 0) s').H H1.length=some (.row cs):=by rw[wB];exact hm
 have real:∀b,G'.ρ H1.length=some b->¬G'.F b/\∃us:List Value,us.length=cs.length/\VL G' W' cs us/\∀i(hi:i<us.length),W'.cell? ⟨b,0+i,none⟩=some us[i]:=by
  intro b hρ;obtain⟨hF,vs,T,hh,us,rest,hus,hvl⟩:=hR'.blk H1.length b _ hρ hm';refine⟨hF,us,VL.length _ _ hvl,hvl,λi hi=>?_⟩;have:vs[i]?=some us[i]:=by
   have h1:vs.toList[i]?=some us[i]:=by rw[hus,List.getElem?_append_left hi,List.getElem?_eq_getElem hi]
   simpa using h1
  rw[Nat.zero_add];simp[World.cell?,hh,this]
 have hNn:G'.N H1.length->cs=[]:=λe=>yL.void_row (hR'.Nvoid e hm');let G'':Gh:={G' with ρ:=λi=>if i<H1.length then G'.ρ i else none,L:=λc o=>G'.L c o\/(G'.ρ H1.length=some c/\o<cs.length),N:=λi=>i<H1.length/\G'.N i};have hS:Sub G' G'' (λi=>i<H1.length):=⟨rfl,λi b hi e=>by show(if i<H1.length then G'.ρ i else none)=_;rw[if_pos hi];exact e,λ_ _ e=>e,λ_ _ e=>.inl e,λ_ hi e=>⟨hi,e⟩⟩;have hC:∀b,G'.ρ H1.length=some b->VC G'' W' cs b 0:=λb hρ=>by obtain⟨_,us,hlen,hvl,hcell⟩:=real b hρ;exact VC.of_cells cs us b 0 (VL.data hS.L cs us hcs hvl) (λi hi=>.inr ⟨hρ,by omega⟩) hcell
 have hσ:∀i,(xD (uI 0) {s' with H:=zGq H1.length s'.H}).H i=if i<H1.length then look s'.H i else none:=λi=>by rw[wB];exact cB _ _
 have hσ':∀i,(xD (uI 0) s').H i=look s'.H i:=λi=>wB _ _;refine⟨u,G'',{s' with H:=zGq H1.length s'.H},rfl,⟨λi c hc=>?_,hE.τ,λc o e=>.inl (hE.L c o e),hE.cell,hE.w0,hE.F,λc o e=>?_,hE.room,λi e=>?_⟩,⟨λi=>?_,⟨H1.length,λi hi=>?_⟩,λi j c hi hj=>?_,λi c X hi hX=>?_,λc o hL=>?_,hR'.τns,λk hk=>?_,hR'.ownd,hR'.below,hR'.base⟩,V.fz hS hC hNn _ _ hr hu,λi X hX=>?_,ho⟩
 ·have hi:i<H0.length:=Nat.lt_of_not_le λhge=>by rw[(hB.ρ i hge).1]at hc;cases hc
  show(if i<H1.length then G'.ρ i else none)=_;rw[if_pos (by omega)];exact hE.ρ i c hc
 ·rcases e with e|⟨e,_⟩;·exact hE.newL c o e
  ·exact .inr (by rw[<-hE.F];exact(real c e).1)
 ·have hi:i<H0.length:=Nat.lt_of_not_le λhge=>(hB.ρ i hge).2 e;exact⟨by omega,hE.N i e⟩
 ·rw[hσ];show iO (if i<H1.length then G'.ρ i else none) (i<H1.length/\G'.N i) _;have hd:=hR'.dom i;rw[hσ']at hd;split;·rename_i hi;exact⟨λq=>(hd.1 q).imp (λr=>⟨hi,r⟩) id,λq=>⟨(hd.2.1 q).1,λr=>(hd.2.1 q).2 r.2⟩,λr=>hd.2.2 r.2⟩
  ·rename_i hi;exact⟨λ_=>.inr rfl,λ_=>⟨rfl,λr=>hi r.1⟩,λr=>absurd r.1 hi⟩
 ·rw[hσ,if_neg (by omega)]
 ·have hi':(if i<H1.length then G'.ρ i else none)=some c:=hi;have hj':(if j<H1.length then G'.ρ j else none)=some c:=hj;split at hi'
  ·split at hj'
   ·rename_i h1 h2;rw[hσ,hσ,if_pos h1,if_pos h2,<-hσ',<-hσ'];exact hR'.inj i j c hi' hj'
   ·cases hj'
  ·cases hi'
 ·have hi':(if i<H1.length then G'.ρ i else none)=some c:=hi;split at hi'
  ·rename_i hlt;rw[hσ,if_pos hlt]at hX;obtain⟨q1,q2⟩:=hR'.blk i c X hi' (by rw[hσ'];exact hX);refine⟨q1,?_⟩;have hget:(H1++[.row cs])[i]?=some H1[i]:=by rw[List.getElem?_append_left hlt,List.getElem?_eq_getElem hlt]
   have:=hb i _ hget;rw[this]at hX;cases hX;have hf:=hH1 _ (List.getElem_mem hlt);cases hY:H1[i]with|cells ds=>rw[hY]at q2 hf;obtain⟨vs',T',q3,q4⟩:=q2;exact⟨vs',T',q3,q4.imp λus=>VL.less hS _ us hf⟩|obj o=>rw[hY]at q2;exact q2|row ds=>rw[hY]at q2 hf;obtain⟨vs',T',q3,q4⟩:=q2;exact⟨vs',T',q3,q4.imp λus=>VL.data hS.L _ us hf⟩|dead=>rw[hY]at q2;exact q2
  ·cases hi'
 ·rcases hL with hL|⟨hρ,hlt⟩
  ·obtain⟨q1,q2⟩:=hR'.live c o hL;refine⟨q1,λi hi=>?_⟩;have hi':(if i<H1.length then G'.ρ i else none)=some c:=hi;split at hi';·exact q2 i hi'
   ·cases hi'
  ·obtain⟨_,us,hlen,hvl,hcell⟩:=real c hρ;refine⟨⟨us[o]'(by omega),?_⟩,λi hi=>?_⟩
   ·have:=hcell o (by omega);rwa[Nat.zero_add]at this
   ·have hi':(if i<H1.length then G'.ρ i else none)=some c:=hi;split at hi'
    ·rename_i hlt';have hi2:look s'.H i=some H1[i]:=hb i _ (by rw[List.getElem?_append_left hlt',List.getElem?_eq_getElem hlt']);rcases hR'.inj i H1.length c hi' hρ with this|this|this;·omega
     ·rw[hσ',hi2]at this;have h3:=List.all_eq_true.1 hnd _ (List.getElem_mem hlt');rw[Option.some.inj this]at h3;cases h3
     ·rw[hσ',hm]at this;cases this
    ·cases hi'
 ·obtain⟨c,f1,t,q1,q2|⟨q2,q3,q4,q5⟩⟩:=hR'.own k hk;·exact⟨c,f1,t,q1,.inl q2⟩
  ·refine⟨c,f1,t,q1,.inr ⟨q2,λi hi=>?_,λo h1 h2 hL=>?_,q5⟩⟩
   ·have hi':(if i<H1.length then G'.ρ i else none)=some c:=hi;split at hi';·exact q3 i hi'
    ·cases hi'
   ·rcases hL with hL|⟨hρ,_⟩;·exact q4 o h1 h2 hL
    ·exact q3 _ hρ
 ·have hlt:=(List.getElem?_eq_some_iff.1 hX).1;show look (zGq H1.length s'.H) i=some X;rw[cB,if_pos hlt];exact hb i X (by rw[List.getElem?_append_left hlt];exact hX)
theorem CT.freeze{P:Program}{f:FuncId}{H0 H1:List yL}{args cs:List AV}{res res':AV}{nst:Nat}(h:CT P f H0 args res (H1++[.row cs]) nst)(hle:H0.length<=H1.length)(hH1:∀X∈H1,X.fine (λi=>i<H1.length))(hcs:AV.DataL cs)(hr:res.fzOk H1.length)(hnd:H1.all yL.alive=true)(e:res.fz H1.length cs=res'):CT P f H0 args res' H1 nst:=by subst e;exact⟨h.tri.freeze hle hH1 hcs hr hnd,h.args,h.H0,AV.fz_fine hcs _ hr,hH1⟩
theorem zCL{G0 G':Gh}{W W':World}{s':xB}{u:Value}(sz:Nat)(hB:zCu (0:Nat) G0)(hE:vL G0 W G' W')(hR':yM G' (xD (uI 0) s') W')(hu:∃cap b o,(cap=0)/\(u=.slice (aB u) 0 0\/u=.slice (some ⟨b,o,none⟩) 0 cap)):∃u' G'' s'',Ending.returned u=.returned u'/\vL G0 W G'' W'/\yM G'' (xD (uI 0) s'') W'/\V G'' W' (.sl [] 0 (.st 0 sz)) u'/\(∀i X,([]:List yL)[i]?=some X->look s''.H i=some X)/\∀k,k<1->s''.own.any (Nat.beq k)=true:=by
 let G'':Gh:={G' with ρ:=λ_=>none,τ:=λk=>if k=0 then some (0,1,0)else none,N:=λ_=>False};refine⟨u,G'',{s' with H:=[],own:=[0],ns:=1},rfl,⟨λi c hc=>?_,λk r hk=>?_,hE.L,hE.cell,hE.w0,hE.F,hE.newL,λi c m hc=>?_,λi e=>absurd e (hB.ρ i (Nat.zero_le _)).2⟩,⟨λi=>?_,⟨0,λi _=>?_⟩,λi j c hi=>?_,λi c X hi=>?_,λc o hL=>?_,λk hk=>?_,λk hk=>?_,λk k' _ _ _ _ _ hk hk'=>?_,hR'.below,hR'.base⟩,?_,λi X hX=>?_,λk hk=>?_⟩;·rw[(hB.ρ i (Nat.zero_le _)).1]at hc;cases hc
 ·rw[hB.τ k]at hk;cases hk
 ·rw[(hB.ρ i (Nat.zero_le _)).1]at hc;cases hc
 ·rw[wB];exact⟨λ_=>.inr rfl,λ_=>⟨rfl,id⟩,λe=>e.elim⟩
 ·rw[wB];rfl
 ·cases hi
 ·cases hi
 ·exact⟨(hR'.live c o hL).1,λi hi=>by cases hi⟩
 ·have hk1:1<=k:=hk;show(if k=0 then some (0,1,0)else none)=none;rw[if_neg (by omega)]
 ·rw[rF]at hk;have e:k=0:=by simpa using hk
  subst e;exact⟨0,1,0,rfl,.inl (by decide)⟩
 ·rw[rF]at hk hk';have e:k=0:=by simpa using hk
  have e':k'=0:=by simpa using hk'
  intros;omega
 ·obtain⟨cap,b,o,rfl,hu|rfl⟩:=hu
  ·simp only[V];exact⟨0,Nat.le_refl 0,.inl ⟨(by trivial),(by trivial),(by trivial),hu,_,rfl⟩⟩
  ·simp only[V];exact⟨0,Nat.le_refl 0,.inl ⟨(by trivial),(by trivial),(by trivial),(by first|rfl|trivial),_,rfl⟩⟩
 ·cases hX
 ·have:k=0:=by omega
  subst this;rfl
theorem uS.freezeS{P:Program}{f:FuncId}{args cs:List AV}{n c sz:Nat}(h:uS P f [] args (.ms 0 0 n c sz) [.row cs] 0)(hcs:AV.DataL cs)(hl:cs.length=n*sz):uS P f [] args (.sl cs n (.st 0 sz)) [] 1:=by
 intro G0 W cargs hB hR hv;refine(h G0 W cargs hB hR hv).mono ?_;rintro e W'⟨u,G',s',rfl,hE,hR',hu,hb,-⟩;have hm:look s'.H 0=some (.row cs):=hb 0 _ (by simp);have hm':(xD (uI 0) s').H 0=some (.row cs):=by rw[wB];exact hm
 simp only[V]at hu;rcases hu with⟨b,cap,hρ,hn,o,rfl,hro⟩|⟨⟨e0,_⟩,hN,p,rfl⟩;rotate_left
 ·have hcs0:=yL.void_row (hR'.Nvoid hN hm');subst e0;try subst hcs0
  exact zCL sz hB hE hR' ⟨0,0,0,rfl,.inl rfl⟩
 obtain⟨hF,vs,T,hh,us,rest,hus,hvl⟩:=hR'.blk 0 b _ hρ hm';have hlen:=VL.length _ _ hvl;rcases hro with⟨rfl,vs2,T2,hh2,hroom⟩|⟨_,h0⟩;rotate_left;·exact absurd h0 (Nat.lt_irrefl _)
 rw[hh]at hh2;cases hh2;let G'':Gh:={G' with ρ:=λ_=>none,τ:=λk=>if k=0 then some (b,0+cs.length,0+cap*sz)else none,L:=λc o=>G'.L c o\/(c=b/\o<cs.length),N:=λ_=>False};have hcell:∀i(hi:i<us.length),W'.cell? ⟨b,0+i,none⟩=some us[i]:=by
  intro i hi;have:vs[i]?=some us[i]:=by
   have h1:vs.toList[i]?=some us[i]:=by rw[hus,List.getElem?_append_left hi,List.getElem?_eq_getElem hi]
   simpa using h1
  rw[Nat.zero_add];simp[World.cell?,hh,this]
 have hC:VC G'' W' cs b 0:=VC.of_cells cs us b 0 (VL.data (G':=G'') (λc o e=>Or.inl e) cs us hcs hvl) (λi hi=>.inr ⟨rfl,by omega⟩) hcell;refine⟨_,G'',{s' with H:=[],own:=[0],ns:=1},rfl,⟨λi c hc=>?_,λk r hk=>?_,λc o e=>.inl (hE.L c o e),hE.cell,hE.w0,hE.F,λc o e=>?_,λi c m hc=>?_,λi e=>absurd e (hB.ρ i (Nat.zero_le _)).2⟩,⟨λi=>?_,⟨0,λi _=>?_⟩,λi j c hi=>?_,λi c X hi=>?_,λc o hL=>?_,λk hk=>?_,λk hk=>?_,λk k' _ _ _ _ _ hk hk'=>?_,hR'.below,hR'.base⟩,?_,λi X hX=>?_,λk hk=>?_⟩;·rw[(hB.ρ i (Nat.zero_le _)).1]at hc;cases hc
 ·rw[hB.τ k]at hk;cases hk
 ·rcases e with e|⟨rfl,_⟩;·exact hE.newL c o e
  ·exact .inr (by rw[<-hE.F];exact hF)
 ·rw[(hB.ρ i (Nat.zero_le _)).1]at hc;cases hc
 ·rw[wB];exact⟨λ_=>.inr rfl,λ_=>⟨rfl,id⟩,λe=>e.elim⟩
 ·rw[wB];rfl
 ·cases hi
 ·cases hi
 ·rcases hL with hL|⟨rfl,hlt⟩;·exact⟨(hR'.live c o hL).1,λi hi=>by cases hi⟩
  ·refine⟨⟨us[o]'(by omega),?_⟩,λi hi=>by cases hi⟩;have:=hcell o (by omega);rwa[Nat.zero_add]at this
 ·have hk1:1<=k:=hk;show(if k=0 then some (b,0+cs.length,0+cap*sz)else none)=none;rw[if_neg (by omega)]
 ·rw[rF]at hk;have e:k=0:=by simpa using hk
  subst e;refine⟨b,0+cs.length,0+cap*sz,rfl,.inr ⟨hF,λi hi=>(by cases hi),λo h1 h2 hL=>?_,vs,T,hh,hroom⟩⟩;rcases hL with hL|⟨_,h3⟩;·exact(hR'.live b o hL).2 0 hρ
  ·omega
 ·rw[rF]at hk hk';have e:k=0:=by simpa using hk
  have e':k'=0:=by simpa using hk'
  intros;omega
 ·simp only[V];exact⟨cap,Nat.le_trans hn.1 hn.2,.inr ⟨b,0,rfl,hC,⟨_,rfl⟩,.inr ⟨hl,hF,rfl⟩⟩⟩
 ·cases hX
 ·have:k=0:=by omega
  subst this;rfl
theorem uS.stampNil{P:Program}{f:FuncId}{args:List AV}{sz:Nat}(h:uS P f [] args (.sl [] 0 .full) [] 0):uS P f [] args (.sl [] 0 (.st 0 sz)) [] 1:=by
 intro G0 W cargs hB hR hv;refine(h G0 W cargs hB hR hv).mono ?_;rintro e W'⟨u,G',s',rfl,hE,hR',hu,hb,-⟩;refine zCL sz hB hE hR' ?_;simp only[V]at hu;obtain⟨cap,hc,⟨_,_,h3,h4,_⟩|⟨b,off,rfl,_,ho⟩⟩:=hu;·exact⟨0,0,0,rfl,.inl h4⟩
 ·exact⟨cap,b,off,ho,.inr rfl⟩
theorem CT.freezeS{P:Program}{f:FuncId}{args cs:List AV}{n c sz:Nat}(h:CT P f [] args (.ms 0 0 n c sz) [.row cs] 0)(hcs:AV.DataL cs)(hl:cs.length=n*sz):CT P f [] args (.sl cs n (.st 0 sz)) [] 1:=⟨h.tri.freezeS hcs hl,h.args,h.H0,hcs,λ_ h=>nomatch h⟩
theorem CT.stampNil{P:Program}{f:FuncId}{args:List AV}{sz:Nat}(h:CT P f [] args (.sl [] 0 .full) [] 0):CT P f [] args (.sl [] 0 (.st 0 sz)) [] 1:=⟨h.tri.stampNil,h.args,h.H0,trivial,λ_ h=>nomatch h⟩
def gmk{α:Type}(B:Int)(d:α)(n:Int):Option (List α):=if 0<=n/\n*B<=140737488355328 then some (List.replicate n.toNat d)else none
def oT(n:Nat)(i:Int):Option Nat:=if 0<=i/\i<n then some i.toNat else none
def jF{α:Type}(l:List α)(k:Nat)(x:α):Option (List α):=if k<l.length then some (l.set k x)else none
def I9{α:Type}(n:Nat)(l:List α):Option (List α):=if l.length=n then some l else none
theorem rG{α:Type}{n:Nat}{l r:List α}(h:I9 n l=some r):r=l/\n=r.length:=by
 unfold I9 at h;split at h;·rename_i e;cases h;exact⟨rfl,e.symm⟩
 ·cases h
theorem zCM{f:Nat->AV}{s:Nat}(hs:0<s):∀n:Nat,(List.range (n*s)).map (λj=>f (j%s))=(List.replicate n ((List.range s).map f)).flatten|0=>by simp|n+1=>by rw[Nat.add_mul,Nat.one_mul,List.range_add,List.map_append,zCM hs n,List.replicate_succ',List.flatten_append];congr 1;simp only[List.map_map,List.flatten_cons,List.flatten_nil,List.append_nil];apply List.map_congr_left;intro j hj;have:j<s:=List.mem_range.1 hj;simp[Function.comp,Nat.add_comm (n*s) j,Nat.mod_eq_of_lt this]
theorem zGp{α:Type}{c:α->List AV}{d:α}:∀n:Nat,(List.replicate n (c d)).flatten=zC c (List.replicate n d)|0=>rfl|n+1=>by simp only[List.replicate_succ,List.flatten_cons,zC,List.flatMap_cons];rw[zGp n];rfl
theorem yBs{P:Program}{α:Type}{c:α->List AV}{sz:Nat}{t e:TypeId}{ie:TypeInfo}{z:Value}(ht:P.underlying t=some (.slice e))(hi:P.info? e=some ie)(hs:ie.size=sz)(hz:ie.zero=some z)(hzs:z.cells.size=sz)(h1:1<=sz){B:Nat}(hb:ie.bytes=B)(hB:1<=B){d:α}(hd:(List.range sz).map (λj=>(ofV 8 (z.cells.getD j undef)).frz)=c d){n:Int}{l:List α}(h:gmk (B:Int) d n=some l):Ob.ok P (.mk (iW P t (ai n) (ai n)) (zC c l) l.length):=by
 unfold gmk at h;split at h
 ·rename_i hc;cases h;show iW P t (ai n) (ai n)=some (zC c (List.replicate n.toNat d),(List.replicate n.toNat d).length);unfold iW;simp only[ht,hi,hz];have hb':(B:Int)>=1:=by omega
  have hn:n<=n*B:=by have:=Int.mul_le_mul_of_nonneg_left hb' hc.1;simpa using this
  rw[if_pos ⟨trivial,hc.1,by rw[hb];exact hc.2,by omega,by rw[hzs,hs],by rw[hs];exact h1⟩];simp only[List.length_replicate,Option.some.injEq,Prod.mk.injEq,and_true];rw[hs,hzs,zCM h1 (f:=λj=>(ofV 8 (z.cells.getD j undef)).frz),hd,zGp]
 ·cases h
theorem zEc{P:Program}{t e:TypeId}{ie:TypeInfo}(ht:P.underlying t=some (.slice e))(hi:P.info? e=some ie){sz:Nat}(hs:ie.size=sz){b n k c z:Nat}{i:Int}(h:oT n i=some k):xE P t (.ms b 0 n c z) (ai i)=some (.mp b (k*sz)):=by
 unfold oT at h;split at h
 ·rename_i hc;cases h;unfold xE;simp only[ht,hi];rw[if_pos hc,hs,Nat.zero_add]
 ·cases h
theorem zLf{α:Type}{c:α->List AV}{sz:Nat}(hc:vB c sz){l:List α}{k:Nat}{x:α}(h:zS l (k:Int)=some x):(zC c l).drop (k*sz)=c x++zC c (l.drop (k+1)):=by obtain⟨_,_,h2⟩:=lK h;exact zEh hc.len (by simpa using h2)
theorem zQr{α:Type}{c:α->List AV}{sz:Nat}(hc:vB c sz){l:List α}{k off:Nat}{x:α}(h:zS l (k:Int)=some x):(zC c l).drop (k*sz+off)=(c x++zC c (l.drop (k+1))).drop off:=by rw[<-List.drop_drop,zLf hc h]
theorem zGo{α:Type}{c:α->List AV}{sz:Nat}(hc:∀x,(c x).length=sz):∀(l:List α)(k:Nat)(x:α),k<l.length->splice (zC c l) (k*sz) (c x)=zC c (l.set k x)
 |[],k,x,h=>by simp at h|y::l,0,x,h=>by simp only[splice,Nat.zero_mul,List.take_zero,List.nil_append,Nat.zero_add,zC,List.flatMap_cons,List.set_cons_zero];rw[List.drop_left' (by rw[hc,hc])]|y::l,k+1,x,h=>by
  have ih:=zGo hc l k x (by simpa using h);simp only[splice,zC]at ih;simp only[splice,zC,List.flatMap_cons,List.set_cons_succ];rw[<-ih];have e:(k+1)*sz=sz+k*sz:=by rw[Nat.add_mul,Nat.one_mul,Nat.add_comm]
  rw[e,List.take_append,List.take_of_length_le (by rw[hc];omega),hc,Nat.add_sub_cancel_left,show sz+k*sz+(c x).length=sz+(k*sz+(c x).length)by omega,<-List.drop_drop,List.drop_left' (hc y)];simp only[List.append_assoc]
theorem zUy{P:Program}{α:Type}{c:α->List AV}{sz:Nat}(hc:vB c sz){l l2:List α}{k:Nat}{x:α}(h:jF l k x=some l2):Ob.ok P (.wt (zC c l) (k*sz) (.agg (c x)) sz (zC c l2)):=by
 unfold jF at h;split at h;·rename_i hk;cases h;refine⟨hc.one x,hc.len x,?_,zGo hc.len l k x hk⟩;rw[vP hc.len];have:=Nat.mul_le_mul_right sz (show k+1<=l.length from hk);rw[Nat.add_mul,Nat.one_mul]at this;exact this
 ·cases h
theorem zGn{P:Program}{α:Type}{c:α->List AV}{sz:Nat}(hc:vB c sz){t e:TypeId}{ie:TypeInfo}(ht:P.underlying t=some (.slice e))(hi:P.info? e=some ie)(hs:ie.size=sz){l r:List α}{b:Int}{k k':IntKind}{o:Own}(h:mU l 0 b=some r):wY P t (.sl (zC c l) l.length o) none (some (.val (.int k b))) (some (.val (.int k' b)))=some (.sl (zC c r) r.length .full):=by
 obtain⟨_,h1,h2,rfl⟩:=i6 h;subst hs;have key:wY P t (.sl (zC c l) l.length o) none (some (.val (.int k b))) (some (.val (.int k' b)))=some (.sl (zC c (l.take b.toNat)) (l.take b.toNat).length (o.cut 0 b.toNat (Nat.beq b.toNat l.length) (Nat.beq b.toNat b.toNat))):=by
  unfold wY;simp only[ht,hi,amx,A0,xZ];rw[if_pos ⟨h1,h2⟩];simp only[Option.map_some];have hbb:(0<=b/\b<=(b.toNat:Nat)):=⟨h1,by omega⟩;rw[if_pos hbb];simp only[Option.isSome_some,Option.isNone_some,Bool.false_eq_true,and_false,if_false];rw[if_pos (by rw[vP hc.len];simp)];simp only[Nat.sub_zero,Nat.zero_mul,List.drop_zero,Bool.true_and];rw[lJ hc.len];have hl:(l.take b.toNat).length=b.toNat:=by simp;omega
  rw[hl]
 rw[key];simp only[Own.cut,Nat.beq_refl,if_true,Int.sub_zero,Int.toNat_zero,List.drop_zero]
theorem zUx{P:Program}{t e:TypeId}{ie:TypeInfo}(ht:P.underlying t=some (.slice e))(hi:P.info? e=some ie){sz:Nat}(hs:ie.size=sz){b o n k c z:Nat}{i:Int}(h:oT n i=some k):xE P t (.ms b (o*sz) n c z) (ai i)=some (.mp b ((o+k)*sz)):=by
 unfold oT at h;split at h
 ·rename_i hc;cases h;unfold xE;simp only[ht,hi];rw[if_pos hc,hs,Nat.add_mul]
 ·cases h
def jG(n:Nat)(a b:Int):Option (Nat×Nat):=if 0<=a/\a<=b/\b<=n then some (a.toNat,(b-a).toNat)else none
theorem P8{n:Nat}{a b:Int}{r:Nat×Nat}(h:jG n a b=some r):0<=a/\a<=b/\b<=n/\r.1=a.toNat/\r.2=b.toNat-a.toNat:=by
 unfold jG at h;split at h
 ·rename_i q;cases h;exact⟨q.1,q.2.1,q.2.2,rfl,by show(b-a).toNat=_;omega⟩
 ·cases h
theorem zGm{P:Program}{t e:TypeId}{ie:TypeInfo}(ht:P.underlying t=some (.slice e))(hi:P.info? e=some ie){sz:Nat}(hs:ie.size=sz)(h1:1<=sz){b o n c m:Nat}{x y:Int}{r:Nat×Nat}{lo hi':Option AV}(hm:msb n c hi' none=m)(h:jG m x y=some r)(hlo:∀h,xZ h 0 lo=if 0<=x/\x<=h then some x.toNat else none)(hhi:xZ m m hi'=if 0<=y/\y<=m then some y.toNat else none):wY P t (.ms b (o*sz) n c sz) lo hi' none=some (.ms b ((o+r.1)*sz) r.2 (c-r.1) sz):=by obtain⟨q1,q2,q3,q4,q5⟩:=P8 h;subst hs;unfold wY;simp only[ht,hi,amx,hm,hhi];rw[if_pos ⟨by omega,q3⟩];simp only[hlo];rw[if_neg (by simp),if_pos ⟨q1,by omega⟩];simp only;rw[if_pos ⟨trivial,h1⟩,q4,q5,Nat.add_mul];rfl
theorem zXO{P:Program}{t e:TypeId}{ie:TypeInfo}(ht:P.underlying t=some (.slice e))(hi:P.info? e=some ie){sz:Nat}(hs:ie.size=sz)(h1:1<=sz){b o n c:Nat}{x y:Int}{r:Nat×Nat}(h:jG c x y=some r):wY P t (.ms b (o*sz) n c sz) (some (ai x)) (some (ai y)) none=some (.ms b ((o+r.1)*sz) r.2 (c-r.1) sz):=zGm ht hi hs h1 rfl h (λ_=>rfl) rfl
theorem zAy{P:Program}{t e:TypeId}{ie:TypeInfo}(ht:P.underlying t=some (.slice e))(hi:P.info? e=some ie){sz:Nat}(hs:ie.size=sz)(h1:1<=sz){b o n c:Nat}{x:Int}{r:Nat×Nat}(h:jG n x n=some r):wY P t (.ms b (o*sz) n c sz) (some (ai x)) none none=some (.ms b ((o+r.1)*sz) r.2 (c-r.1) sz):=zGm ht hi hs h1 rfl h (λ_=>rfl) (by simp[xZ,msb])
theorem zQq{P:Program}{t e:TypeId}{ie:TypeInfo}(ht:P.underlying t=some (.slice e))(hi:P.info? e=some ie){sz:Nat}(hs:ie.size=sz)(h1:1<=sz){b off n c:Nat}{y:Int}{r:Nat×Nat}(h:jG c 0 y=some r):wY P t (.ms b off n c sz) none (some (ai y)) none=some (.ms b off r.2 c sz):=by
 obtain⟨q1,q2,q3,q4,q5⟩:=P8 h;subst hs;have h2:xZ c c (some (ai y))=some y.toNat:=by show(if 0<=y/\y<=(c:Int)then some y.toNat else none)=_;rw[if_pos ⟨by omega,q3⟩]
 unfold wY;simp only[ht,hi,amx,show msb n c (some (ai y)) none=c from rfl,h2];rw[if_neg (by simp)];simp only[xZ];rw[if_pos ⟨trivial,h1⟩,q5];simp
theorem zNc{P:Program}{t e:TypeId}{ie:TypeInfo}(ht:P.underlying t=some (.slice e))(hi:P.info? e=some ie){sz:Nat}(hs:ie.size=sz)(h1:1<=sz)(b off n c:Nat):wY P t (.ms b off n c sz) none (some (ai (n:Int))) (some (ai (n:Int)))=some (.ms b off n n sz):=by
 subst hs;have hc:A0 n (ai (n:Int))=some n:=by show(if 0<=(n:Int)/\(n:Int)<=(n:Int)then some (n:Int).toNat else none)=_;rw[if_pos ⟨by omega,by omega⟩,Int.toNat_natCast]
 have hd:xZ n n (some (ai (n:Int)))=some n:=hc;unfold wY;simp only[ht,hi,show msb n c (some (ai (n:Int))) (some (ai (n:Int)))=n from rfl,amx,hc,Option.map_some,hd];rw[if_neg (by simp)];simp only[xZ];rw[if_pos ⟨trivial,h1⟩];simp
theorem zUw{P:Program}{t e:TypeId}{ie:TypeInfo}(ht:P.underlying t=some (.slice e))(hi:P.info? e=some ie){sz:Nat}(hs:ie.size=sz)(h1:1<=sz){b o n c:Nat}{x y:Int}{r:Nat×Nat}(h:jG n x y=some r):wY P t (.ms b (o*sz) n c sz) (some (ai x)) (some (ai y)) (some (ai (n:Int)))=some (.ms b ((o+r.1)*sz) r.2 (n-r.1) sz):=by
 obtain⟨q1,q2,q3,q4,q5⟩:=P8 h;subst hs;have hc:A0 n (ai (n:Int))=some n:=by show(if 0<=(n:Int)/\(n:Int)<=(n:Int)then some (n:Int).toNat else none)=_;rw[if_pos ⟨by omega,by omega⟩,Int.toNat_natCast]
 have hd:xZ n n (some (ai y))=some y.toNat:=by show(if 0<=y/\y<=(n:Int)then some y.toNat else none)=_;rw[if_pos ⟨by omega,q3⟩]
 have he:xZ y.toNat 0 (some (ai x))=some x.toNat:=by show(if 0<=x/\x<=(y.toNat:Int)then some x.toNat else none)=_;rw[if_pos ⟨q1,by omega⟩]
 unfold wY;simp only[ht,hi,show msb n c (some (ai y)) (some (ai (n:Int)))=n from rfl,amx,hc,Option.map_some,hd];rw[if_neg (by simp)];simp only[he];rw[if_pos ⟨trivial,h1⟩,q4,q5,Nat.add_mul];rfl
theorem ldF{P:Program}{α:Type}{c:α->List AV}{sz:Nat}(hc:vB c sz){l:List α}{k:Nat}{x:α}(h:zS l (k:Int)=some x)(off:Nat)(q:Bool×Nat){val:AV}(e:pE q ((c x++zC c (l.drop (k+1))).drop off)=some val):Ob.ok P (.ld (pE q ((zC c l).drop (k*sz+off))) val):=by show pE q _=some val;rw[zQr hc h,e]
theorem ldE{P:Program}{α:Type}{c:α->List AV}{sz:Nat}(hc:vB c sz){l:List α}{k:Nat}{x:α}(h:zS l (k:Int)=some x)(q:Bool×Nat){val:AV}(e:pE q (c x++zC c (l.drop (k+1)))=some val):Ob.ok P (.ld (pE q ((zC c l).drop (k*sz))) val):=by show pE q _=some val;rw[zLf hc h,e]
theorem zNb{α:Type}{c:α->List AV}{sz:Nat}(hc:∀x,(c x).length=sz){l:List α}{k off:Nat}{x x':α}{vs:List AV}(h:l[k]?=some x)(hv:off+vs.length<=sz)(e:splice (c x) off vs=c x'):splice (zC c l) (k*sz+off) vs=zC c (l.set k x'):=by
 obtain⟨hk,hx⟩:=List.getElem?_eq_some_iff.1 h;have h1:l=l.take k++x::l.drop (k+1):=by rw[<-hx];simp
 have h2:l.set k x'=l.take k++x'::l.drop (k+1):=List.set_eq_take_append_cons_drop.trans (by rw[if_pos hk]);have hlen:(zC c (l.take k)).length=k*sz:=by rw[vP hc,List.length_take,Nat.min_eq_left (Nat.le_of_lt hk)]
 have e1:zC c l=zC c (l.take k)++(c x++zC c (l.drop (k+1))):=by
  conv=>lhs;rw[h1]
  rw[<-eE];simp[zC]
 have e2:zC c (l.set k x')=zC c (l.take k)++(c x'++zC c (l.drop (k+1))):=by rw[h2,<-eE];simp[zC]
 rw[e1,e2,<-e];clear e1 e2 h1 h2;generalize zC c (l.drop (k+1))=R;generalize zC c (l.take k)=A at hlen⊢;simp only[splice];rw[List.take_append,List.take_of_length_le (by rw[hlen];omega),hlen,Nat.add_sub_cancel_left,show k*sz+off+vs.length=k*sz+(off+vs.length)by omega,List.drop_append,List.drop_of_length_le (by rw[hlen];omega),hlen,Nat.add_sub_cancel_left];rw[List.take_append_of_le_length (by rw[hc];omega),List.drop_append_of_le_length (by rw[hc];omega)];simp
theorem wtF{P:Program}{α:Type}{c:α->List AV}{sz:Nat}(hc:vB c sz){l l2:List α}{k:Nat}{x x':α}(hx:zS l (k:Int)=some x)(h:jF l k x'=some l2)(off m:Nat)(v:AV)(hs:v.sound=true)(hm:(rR v).length=m)(ho:off+m<=sz)(e:splice (c x) off (rR v)=c x'):Ob.ok P (.wt (zC c l) (k*sz+off) v m (zC c l2)):=by
 unfold jF at h;split at h
 ·rename_i hk;cases h;obtain⟨_,_,h2⟩:=lK hx;refine⟨hs,hm,?_,zNb hc.len (by simpa using h2) (by omega) e⟩;rw[vP hc.len];have:=Nat.mul_le_mul_right sz (show k+1<=l.length from hk);rw[Nat.add_mul,Nat.one_mul]at this;omega
 ·cases h
theorem wtE{P:Program}{α:Type}{c:α->List AV}{sz:Nat}(hc:vB c sz){l l2:List α}{k:Nat}{x:α}{cs:List AV}(he:c x=cs)(h:jF l k x=some l2):Ob.ok P (.wt (zC c l) (k*sz) (.agg cs) sz (zC c l2)):=he▸zUy hc h
def aO{α:Type}(l:List α)(o n:Nat):Option (List α):=if o+n<=l.length then some ((l.drop o).take n)else none
theorem B1{α:Type}{l r:List α}{o n:Nat}(h:aO l o n=some r):r=(l.drop o).take n/\r.length=n:=by
 unfold aO at h;split at h
 ·cases h;exact⟨rfl,by rw[List.length_take,List.length_drop];omega⟩
 ·cases h
theorem P9{P:Program}{α:Type}{c:α->List AV}{sz:Nat}(hc:vB c sz){t e:TypeId}{ie:TypeInfo}{z:Value}(ht:P.underlying t=some (.slice e))(hi:P.info? e=some ie)(hs:ie.size=sz)(hz:ie.zero=some z)(hzs:z.cells.size=sz)(h1:1<=sz){B:Nat}(hb:ie.bytes=B)(hB:1<=B){l m r:List α}(h:yX B l m=some r)(hm:m.length≠0)(z1:Option Nat)(hz1:∀q,z1=some q->q=sz)(src:Option (Nat×Nat×Nat))(hsrc:∀q,src=some q->q.2.2=sz):kL P t t z1 (zC c l) l.length src (zC c m) m.length=some (zC c r,r.length):=by obtain⟨h2,rfl⟩:=pI h;subst hs;subst hb;have h3:(l.length+m.length)*1<=(l.length+m.length)*ie.bytes:=Nat.mul_le_mul_left _ hB;unfold kL;simp only[ht,hi,hz];rw[if_pos ⟨trivial,vP hc.len l,vP hc.len m,h1,hzs,h2,by omega,I2 hc.one m,hm,hz1,hsrc⟩,eE,List.length_append]
theorem zAx{α:Type}{c:α->List AV}{sz:Nat}(hc:∀x,(c x).length=sz)(l:List α)(o n:Nat):aM (zC c l) (o*sz) n sz=zC c ((l.drop o).take n):=by unfold aM;rw[jV hc,lJ hc]
theorem zAw{P:Program}{α:Type}{c:α->List AV}{sz:Nat}(hc:vB c sz){t e:TypeId}{ie:TypeInfo}{z:Value}(ht:P.underlying t=some (.slice e))(hi:P.info? e=some ie)(hs:ie.size=sz)(hz:ie.zero=some z)(hzs:z.cells.size=sz)(h1:1<=sz){B:Nat}(hb:ie.bytes=B)(hB:1<=B){m r:List α}(h:yX B ([]:List α) m=some r)(hm:m.length≠0):Ob.ok P (.mk (kL P t t none [] 0 none (zC c m) m.length) (zC c r) r.length):=P9 hc ht hi hs hz hzs h1 hb hB h hm none (λ_ h=>nomatch h) none (λ_ h=>nomatch h)
theorem jW{P:Program}{α:Type}{c:α->List AV}{sz:Nat}(hc:vB c sz){t e:TypeId}{ie:TypeInfo}{z:Value}(ht:P.underlying t=some (.slice e))(hi:P.info? e=some ie)(hs:ie.size=sz)(hz:ie.zero=some z)(hzs:z.cells.size=sz)(h1:1<=sz){B:Nat}(hb:ie.bytes=B)(hB:1<=B){l m r:List α}(h:yX B l m=some r)(hm:m.length≠0):Ob.ok P (.mk (kL P t t (some sz) (zC c l) l.length none (zC c m) m.length) (zC c r) r.length):=P9 hc ht hi hs hz hzs h1 hb hB h hm _ (λ_ h=>(Option.some.inj h).symm) none (λ_ h=>nomatch h)
theorem zCN{P:Program}{α:Type}{c:α->List AV}{sz:Nat}(hc:vB c sz){t e:TypeId}{ie:TypeInfo}{z:Value}(ht:P.underlying t=some (.slice e))(hi:P.info? e=some ie)(hs:ie.size=sz)(hz:ie.zero=some z)(hzs:z.cells.size=sz)(h1:1<=sz){B:Nat}(hb:ie.bytes=B)(hB:1<=B){l l' m r:List α}{n:Nat}(hf:I9 n l=some l')(h:yX B l' m=some r)(hm:m.length≠0):Ob.ok P (.mk (kL P t t (some sz) (zC c l) n none (zC c m) m.length) (zC c r) r.length):=by obtain⟨rfl,rfl⟩:=rG hf;exact jW hc ht hi hs hz hzs h1 hb hB h hm
theorem zQp{P:Program}{α:Type}{c:α->List AV}{sz:Nat}(hc:vB c sz){t e:TypeId}{ie:TypeInfo}{z:Value}(ht:P.underlying t=some (.slice e))(hi:P.info? e=some ie)(hs:ie.size=sz)(hz:ie.zero=some z)(hzs:z.cells.size=sz)(h1:1<=sz){B:Nat}(hb:ie.bytes=B)(hB:1<=B){l m' m r:List α}{o n j:Nat}(hp:aO m' o n=some m)(h:yX B l m=some r)(hm:m.length≠0):Ob.ok P (.mk (kL P t t (some sz) (zC c l) l.length (some (j,j,sz)) (aM (zC c m') (o*sz) n sz) n) (zC c r) r.length):=by obtain⟨rfl,hn⟩:=B1 hp;rw[zAx hc.len];have:=P9 hc ht hi hs hz hzs h1 hb hB h hm (some sz) (λ_ h=>(Option.some.inj h).symm) (some (j,j,sz)) (λ_ h=>by cases h;rfl);rw[hn]at this;exact this
theorem zUv{P:Program}{α:Type}{c:α->List AV}{sz:Nat}(hc:vB c sz){t e:TypeId}{ie:TypeInfo}(ht:P.underlying t=some (.slice e))(hi:P.info? e=some ie)(hs:ie.size=sz){l m r:List α}{n k:Nat}(hr:r=l.take n++m)(hn:n<=l.length)(hk:n+m.length<=k)(src:Option Nat)(hsrc:∀q,src=some q->q=sz):zJr P t t sz (zC c l) n k src (zC c m) m.length=some (zC c r):=by subst hs;subst hr;unfold zJr;simp only[ht,hi];rw[if_pos ⟨trivial,trivial,by rw[vP hc.len];exact Nat.mul_le_mul_right _ hn,vP hc.len m,hk,I2 hc.one m,hsrc⟩,lJ hc.len,eE]
def zNa{α:Type}(c n:Nat)(l m:List α):Option (List α):=if n+m.length<=c/\n<=l.length then some (l.take n++m)else none
theorem zNA{α:Type}{c n:Nat}{l m r:List α}(h:zNa c n l m=some r):r=l.take n++m/\n<=l.length/\n+m.length<=c:=by
 unfold zNa at h;split at h;·rename_i q;cases h;exact⟨rfl,q.2,q.1⟩
 ·cases h
theorem zQo{P:Program}{α:Type}{c:α->List AV}{sz:Nat}(hc:vB c sz){t e:TypeId}{ie:TypeInfo}(ht:P.underlying t=some (.slice e))(hi:P.info? e=some ie)(hs:ie.size=sz){l m' m r:List α}{n k o n2:Nat}(hp:aO m' o n2=some m)(h:zNa k n l m=some r):Ob.ok P (.inp (zJr P t t sz (zC c l) n k (some sz) (aM (zC c m') (o*sz) n2 sz) n2) (zC c r)):=by obtain⟨rfl,hn⟩:=B1 hp;obtain⟨q1,q2,q3⟩:=zNA h;rw[zAx hc.len];have:=zUv hc ht hi hs q1 q2 q3 (some sz) (λ_ h=>(Option.some.inj h).symm);rw[hn]at this;exact this
def gle(a b:Nat):Option Unit:=if a<=b then some ()else none
theorem zQn{a b:Nat}{u:Unit}(h:gle a b=some u):a<=b:=by
 unfold gle at h;split at h;·assumption
 ·cases h
theorem zXP{P:Program}{t e:TypeId}{ie:TypeInfo}{zv:Value}(ht:P.underlying t=some (.slice e))(hi:P.info? e=some ie)(hz:ie.zero=some zv){sz:Nat}(hzs:zv.cells.size=sz)(h1:zv.cells.toList.all Value.oneCell'=true){l off:Nat}(h:l<=off):Ob.ok P (.clr t l off sz):=⟨h,e,ie,zv,ht,hi,hz,hzs,h1⟩
theorem yDI{P:Program}{α:Type}{c:α->List AV}{sz:Nat}(hc:vB c sz){t e:TypeId}{ie:TypeInfo}{zv:Value}(ht:P.underlying t=some (.slice e))(hi:P.info? e=some ie)(hz:ie.zero=some zv)(hzs:zv.cells.size=sz)(h1:zv.cells.toList.all Value.oneCell'=true){l:List α}{o:Nat}{u:Unit}(h:gle l.length o=some u):Ob.ok P (.clr t (zC c l).length (o*sz) sz):=zXP ht hi hz hzs h1 (by rw[vP hc.len];exact Nat.mul_le_mul_right _ (zQn h))
theorem w8{P:Program}{t e:TypeId}{ie:TypeInfo}(ht:P.underlying t=some (.slice e))(hi:P.info? e=some ie){n:Nat}(h:n=0):Ob.ok P (.same t t n):=⟨rfl,h,e,ie,ht,hi⟩
def mQ:List (Int×Int)->Nat->List MapEntry|[],_=>[]|p::m,c=>{key:=.int .i64 p.1,val:=.int .i64 p.2,born:=c}::mQ m (c+1)
def B2(m:List (Int×Int)):yL:=.obj (.map ⟨mQ m 0⟩ m.length)
def fK:List (Int×Int)->Int->Option Int|[],_=>none|p::m,k=>if(k==p.1)=true then some p.2 else fK m k
def zJg(m:List (Int×Int))(k:Int):Int:=match fK m k with|some v=>v|none=>0
def Q0(m:List (Int×Int))(k:Int):Bool:=match fK m k with|some _=>true|none=>false
def aE:List (Int×Int)->Int->Int->List (Int×Int)|[],k,v=>[(k,v)]|p::m,k,v=>if(k==p.1)=true then(k,v)::m else p::aE m k v
def J0:List (Int×Int)->Int->Nat->Option (Nat×Value)|[],_,_=>none|p::m,k,i=>if(k==p.1)=true then some (i,.int .i64 p.2)else J0 m k (i+1)
theorem gC(k:Int):∀(m:List (Int×Int))(c i:Nat),Instr.findNow (.int .i64) (.int .i64 k) (mQ m c) i=some (J0 m k i)|[],_,_=>rfl|p::m,c,i=>by simp only[mQ,Instr.findNow,Instr.sameNow,J0,if_true];cases hb:(k==p.1)with|true=>rfl|false=>simp only[Bool.false_eq_true,if_false];exact gC k m (c+1) (i+1)
theorem zAv(k:Int):∀(m:List (Int×Int))(i:Nat),(J0 m k i).map Prod.snd=(fK m k).map (Value.int .i64)|[],_=>rfl|p::m,i=>by simp only[J0,fK];cases hb:(k==p.1)with|true=>rfl|false=>simp only[Bool.false_eq_true,if_false];exact zAv k m (i+1)
theorem zQm(k:Int)(m:List (Int×Int)):zNy (J0 m k 0) (.int .i64 0)=ai (zJg m k):=by
 have h:=zAv k m 0;unfold zJg;cases h1:J0 m k 0<;>cases h2:fK m k<;>rw[h1,h2]at h;·rfl
 ·cases h
 ·cases h
 ·simp only[Option.map_some,Option.some.injEq]at h;rename_i q v;obtain⟨j,u⟩:=q;simp only at h;subst h;rfl
theorem zQl(k:Int)(m:List (Int×Int)):(J0 m k 0).isSome=Q0 m k:=by
 have h:=zAv k m 0;unfold Q0;cases h1:J0 m k 0<;>cases h2:fK m k<;>rw[h1,h2]at h;·rfl
 ·cases h
 ·cases h
 ·rfl
theorem J1:∀(m:List (Int×Int))(c:Nat),(mQ m c).length=m.length|[],_=>rfl|_::m,c=>by simp[mQ,J1 m (c+1)]
theorem zGl(k v:Int):∀(m:List (Int×Int))(c i:Nat),(match J0 m k i with|some (j,_)=>i<=j/\(mQ m c).modify (j-i) (λe=>{e with key:=.int .i64 k,val:=.int .i64 v})=mQ (aE m k v) c/\(aE m k v).length=m.length|none=>mQ m c++[{key:=.int .i64 k,val:=.int .i64 v,born:=c+m.length}]=mQ (aE m k v) c/\(aE m k v).length=m.length+1)|[],c,i=>by simp[J0,aE,mQ]|p::m,c,i=>by simp only[J0,aE];cases hb:(k==p.1)with|true=>simp[mQ]|false=>simp only[Bool.false_eq_true,if_false];have ih:=zGl k v m (c+1) (i+1);cases hm:J0 m k (i+1)with|none=>rw[hm]at ih;simp only at ih⊢;refine⟨?_,by simp[ih.2]⟩;simp only[mQ,List.cons_append,List.length_cons];rw[<-ih.1,show c+(m.length+1)=c+1+m.length by omega]|some q=>obtain⟨j,u⟩:=q;rw[hm]at ih;simp only at ih⊢;refine⟨by omega,?_,by simp[ih.2.2]⟩;simp only[mQ];rw[show j-i=(j-(i+1))+1 by omega,List.modify_succ_cons,ih.2.1]
variable{P:Program}{t kt et:TypeId}{ie:TypeInfo}
theorem zXQ(ht:P.underlying t=some (.map kt et))(hk:P.underlying kt=some (.int .i64))(he:P.info? et=some ie)(hz:ie.zero=some (.int .i64 0))(m:List (Int×Int))(k:Int):Ob.ok P (.lk t (B2 m) (ai k) true (.tup [ai (zJg m k),ab (Q0 m k)])):=by intro ev i s hl;unfold kS;simp only[ht,ai,hk,he,B2]at hl⊢;simp only[hl,hz,gC,rE,cond_true,if_true,zQm,zQl]
theorem zXR(ht:P.underlying t=some (.map kt et))(hk:P.underlying kt=some (.int .i64))(m:List (Int×Int))(k v:Int):Ob.ok P (.mu t (B2 m) (ai k) (ai v) (B2 (aE m k v))):=by intro ev i s hl;unfold rU;simp only[ht,ai,hk,B2]at hl⊢;simp only[hl,gC,rE,cond_true];have h:=zGl k v m 0 0;cases hm:J0 m k 0 with|none=>rw[hm]at h;simp only[Nat.zero_add]at h⊢;rw[h.2,<-h.1];simp|some q=>
 obtain⟨j,u⟩:=q;rw[hm]at h;simp only[Nat.sub_zero]at h⊢;have e:(⟨mQ m 0⟩:Array MapEntry).modify j (λe=>{e with key:=.int .i64 k,val:=.int .i64 v})=⟨mQ (aE m k v) 0⟩:=by apply Array.ext';rw[Array.toList_modify];exact h.2.1
 rw[h.2.2,e]
theorem zXS(ht:P.underlying t=some (.map kt et))(m:List (Int×Int)):Ob.ok P (.ln t (B2 m) (ai (m.length:Int))):=⟨_,_,_,_,rfl,ht,by simp[goInt,J1]⟩
end Go.Ab
namespace Go.Ab
open Go Go.RowKit
abbrev zN{α:Type}(c:α->List AV)(l:List α)(o:Own):AV:=.sl (zC c l) l.length o
abbrev kN(n:Nat):List lI:=List.replicate n .no
structure OL(P:Program)(os:List lI)(ob:List Ob):Prop where ok:yV P ob
theorem yV.rev{P:Program}:∀(a b:List Ob),yV P a->yV P b->yV P (a.reverseAux b)|[],_,_,k=>k|x::a,b,h,k=>yV.rev a (x::b) h.2 ⟨h.1,k⟩
section
variable{P:Program}{os:List lI}{ob:List Ob}
theorem OL.nil:OL P [] []:=⟨trivial⟩
theorem oB{b b':Bool}(n:Nat)(h:b=b')(k:OL P os ob):OL P (.bit b'::(kN n++os)) (.bit b b'::ob):=⟨⟨h,k.ok⟩⟩
theorem oA{x:Option AV}{a:AV}(n:Nat)(h:x=some a)(k:OL P os ob):OL P (.av a::(kN n++os)) (.av x a::ob):=⟨⟨h,k.ok⟩⟩
theorem oC{f:FuncId}{H0:List yL}{args:List AV}{res:AV}{H1:List yL}{nst:Nat}(n:Nat)(ι:List Nat)(h:CT P f H0 args res H1 nst)(k:OL P os ob):OL P (.call ι H1 nst res none::(kN n++os)) (.call f H0 args res H1 nst::ob):=⟨⟨h,k.ok⟩⟩
theorem oK{b b':Bool}{f:FuncId}{H0:List yL}{args:List AV}{res:AV}{H1:List yL}{nst:Nat}(n:Nat)(ι:List Nat)(hb:b=b')(h:CT P f H0 args res H1 nst)(k:OL P os ob):OL P (.call ι H1 nst res (some b')::(kN n++os)) (.call f H0 args res H1 nst::.bit b b'::ob):=⟨⟨h,hb,k.ok⟩⟩
theorem oF{x:Option AV}{a:AV}(n:Nat)(h:∃a0,x=some a0/\a0.frz=a)(k:OL P os ob):OL P (.fz a::(kN n++os)) (.fz x a::ob):=⟨⟨h,k.ok⟩⟩
theorem oP{t t2:TypeId}{es es2 es':List AV}{n1 n2 n' sz:Nat}{e:Bool}(n:Nat)(h:Ob.ok P (.app t t2 es es2 es' n1 n2 n' sz e))(k:OL P os ob):OL P (.app es' n' sz e::(kN n++os)) (.app t t2 es es2 es' n1 n2 n' sz e::ob):=⟨⟨h,k.ok⟩⟩
theorem oS{cs es:List AV}{l m:Nat}(n:Nat)(h:Ob.ok P (.cells cs es l m))(k:OL P os ob):OL P (.sl es m::(kN n++os)) (.cells cs es l m::ob):=⟨⟨h,k.ok⟩⟩
theorem oL{t:TypeId}{X:yL}{key:AV}{o:Bool}{a:AV}(n:Nat)(h:Ob.ok P (.lk t X key o a))(k:OL P os ob):OL P (.lk a::(kN n++os)) (.lk t X key o a::ob):=⟨⟨h,k.ok⟩⟩
theorem oU{t:TypeId}{X Y:yL}{key v:AV}(n:Nat)(h:Ob.ok P (.mu t X key v Y))(k:OL P os ob):OL P (.mu Y::(kN n++os)) (.mu t X key v Y::ob):=⟨⟨h,k.ok⟩⟩
theorem oM{x:Option (List AV×Nat)}{cs:List AV}{m:Nat}(n:Nat)(h:Ob.ok P (.mk x cs m))(k:OL P os ob):OL P (.mk cs m::(kN n++os)) (.mk x cs m::ob):=⟨⟨h,k.ok⟩⟩
theorem oG{x:Option AV}{a:AV}(n:Nat)(h:Ob.ok P (.ld x a))(k:OL P os ob):OL P (.ld a::(kN n++os)) (.ld x a::ob):=⟨⟨h,k.ok⟩⟩
theorem oW{cs:List AV}{off:Nat}{v:AV}{sz:Nat}{cs':List AV}(n:Nat)(h:Ob.ok P (.wt cs off v sz cs'))(k:OL P os ob):OL P (.wt cs'::(kN n++os)) (.wt cs off v sz cs'::ob):=⟨⟨h,k.ok⟩⟩
theorem oN{t:TypeId}{X:yL}{a:AV}(n:Nat)(h:Ob.ok P (.ln t X a))(k:OL P os ob):OL P (.lk a::(kN n++os)) (.ln t X a::ob):=⟨⟨h,k.ok⟩⟩
theorem oI{x:Option (List AV)}{cs:List AV}(n:Nat)(h:Ob.ok P (.inp x cs))(k:OL P os ob):OL P (.inp cs::(kN n++os)) (.inp x cs::ob):=⟨⟨h,k.ok⟩⟩
theorem oQ{t t2:TypeId}{m:Nat}(n:Nat)(h:Ob.ok P (.same t t2 m))(k:OL P os ob):OL P (.same::(kN n++os)) (.same t t2 m::ob):=⟨⟨h,k.ok⟩⟩
theorem oR{t:TypeId}{l off z:Nat}(n:Nat)(h:Ob.ok P (.clr t l off z))(k:OL P os ob):OL P (.clr::(kN n++os)) (.clr t l off z::ob):=⟨⟨h,k.ok⟩⟩
theorem oD{es:List AV}(h:AV.DataL es)(k:OL P os ob):OL P os (.data es::ob):=⟨⟨h,k.ok⟩⟩
end
theorem w9{α:Type}{b:Bool}{x y:Option α}{r:α}(h:(if b=true then x else y)=some r):(b=true/\x=some r)\/(b=false/\y=some r):=by
 cases b;·exact .inr ⟨rfl,by simpa using h⟩
 ·exact .inl ⟨rfl,by simpa using h⟩
theorem spT{α:Type}{b:Bool}{x:Option α}{r:α}(h:(if b=true then x else none)=some r):b=true/\x=some r:=by
 rcases w9 h with h|⟨_,h⟩;·exact h
 ·cases h
theorem nn{α:Type}{r:α}{p:Prop}(h:(none:Option α)=some r):p:=nomatch h
theorem zXT{α:Type}{b:Bool}{x y:α}(h:b=true):(if b=true then x else y)=x:=if_pos h
theorem zUu{α:Type}{b:Bool}{x y:α}(h:b=false):(if b=true then x else y)=y:=by subst h;rfl
theorem sj{α:Type}{x y:α}(h:some x=some y):x=y:=Option.some.inj h
def sp(j:Nat->Value):Nat->Nat->List (Nat×AV)->List AV|0,_,_=>[]|n+1,i,l=>match l with|[]=>.val (j i)::sp j n (i+1) []|(m,a)::l'=>bif Nat.beq m i then a::sp j n (i+1) l' else .val (j i)::sp j n (i+1) l
section
variable{P:Program}{pr:FuncId->List AV->xB->Option LA}(hp:qI P pr)(hm:P.follows .mixedOrders=true){na:Nb}{fn:Func}{f:FuncId}
include hp hm
theorem OL.toHead{H0 H1:List yL}{args:List AV}{res:AV}{nst:Nat}(q:P.funcs[f]?=some fn/\fn.body.isNone=false)(m:Nat)(rs:List (Option Nat×Nat×Nat))(keep ks live:List Nat){os:List lI}{ob:List Ob}(k:OL P os ob){c:Code}{fs':List Fr}{E:(Nat->Value)->List AV}{S:xB}(hk:∀j,Dl P H0.length c (E j) S (vF P H0.length (nB P H0.length fn res H1 nst) fs'))(h:∀j,H9 P pr H0.length 3000 (.run (tT fn)) [] (args++List.replicate (fn.ntmps-args.length) (.val undef)) (A3 H0) ((kN m++os).reverseAux []) rs keep ks live j=some (c,fs',E j,S,ob.reverseAux [])):uS P f H0 args res H1 nst:=uS.toHead hp hm q.1 q.2 3000 _ rs keep ks live h (yV.rev _ _ k.ok trivial) hk
theorem OL.toFin{H0 H1:List yL}{args:List AV}{res:AV}{nst:Nat}(q:P.funcs[f]?=some fn/\fn.body.isNone=false)(m:Nat)(rs:List (Option Nat×Nat×Nat))(keep ks:List Nat)(own:Bool){os:List lI}{ob:List Ob}(k:OL P os ob)(h:Z4 P pr H0.length fn 3000 (.run (tT fn)) [] (args++List.replicate (fn.ntmps-args.length) (.val undef)) (A3 H0) ((kN m++os).reverseAux []) rs keep ks own=some (res,H1,ob.reverseAux []))(hn:nst<=ks.length):uS P f H0 args res H1 nst:=uS.toFin hp hm q.1 q.2 3000 _ rs keep ks own h (yV.rev _ _ k.ok trivial) hn
theorem OL.lHead{Q:AX->List AV->xB->Prop}{c c':Code}{fs fs':List Fr}{env:List AV}{s S:xB}(m:Nat)(rs:List (Option Nat×Nat×Nat))(keep ks live:List Nat){os:List lI}{ob:List Ob}(k:OL P os ob){E:(Nat->Value)->List AV}(hk:∀j,Dl P na c' (E j) S (vF P na Q fs'))(h:∀j,H9 P pr na.n 3000 (.run c) (.loop c::fs) env s ((kN m++os).reverseAux []) rs keep ks live j=some (c',fs',E j,S,ob.reverseAux [])):Dl P na c env s (vF P na Q fs):=Dl.toHead hp hm 3000 _ rs keep ks live h (yV.rev _ _ k.ok trivial) hk
theorem OL.lFin{c:Code}{fs:List Fr}{env:List AV}{s:xB}{res:AV}{H1:List yL}{nst:Nat}(m:Nat)(rs:List (Option Nat×Nat×Nat))(keep ks:List Nat)(own:Bool){os:List lI}{ob:List Ob}(k:OL P os ob)(h:Z4 P pr na.n fn 3000 (.run c) (.loop c::fs) env s ((kN m++os).reverseAux []) rs keep ks own=some (res,H1,ob.reverseAux []))(hn:nst<=ks.length):Dl P na c env s (vF P na (nB P na fn res H1 nst) fs):=Dl.toFin hp hm 3000 _ rs keep ks own h (yV.rev _ _ k.ok trivial) hn
end
section
variable{P:Program}{os:List lI}{ob:List Ob}
theorem jL(n:Nat)(k:OL P os ob):OL P (.cl::(kN n++os)) ob:=⟨k.ok⟩
theorem oCk{f:FuncId}{H0:List yL}{args:List AV}{res:AV}{H1:List yL}{nst:Nat}(n:Nat)(ι:List Nat)(kp:List (Nat×Nat))(h:CT P f H0 args res H1 nst)(hk:zJp H0 H1 kp)(k:OL P os ob):OL P (.callk kp ι H1 nst res::(kN n++os)) (.call f H0 args res H1 nst::.kp H0 H1 kp::ob):=⟨⟨h,hk,k.ok⟩⟩
end
abbrev vX:Nat->Prop:=λ_=>True
mutual def AV.ptB(keep:List Nat):AV->Bool|.val _=>true|.agg cs=>AV.ptBL keep cs|.tup cs=>AV.ptBL keep cs|.sl _ _ _=>true|.ip _=>true|.mp i _=>qS keep i|.ms i _ _ _ _=>qS keep i|.obj i=>qS keep i|.clo _ fs cs=>AV.ptBL keep fs&&AV.ptBL keep cs def AV.ptBL(keep:List Nat):List AV->Bool|[]=>true|a::l=>AV.ptB keep a&&AV.ptBL keep l end
mutual theorem AV.pt_fine{keep:List Nat}:∀a:AV,a.ptB keep=true->a.fine vX->a.fine (λi=>i∈keep)|.val _,_,_=>trivial|.agg cs,h,k=>AV.pt_fineL cs h k|.tup cs,h,k=>AV.pt_fineL cs h k|.sl _ _ _,_,k=>k|.ip _,_,k=>k|.mp _ _,h,_=>uK.1 h|.ms _ _ _ _ _,h,_=>uK.1 h|.obj _,h,_=>uK.1 h|.clo _ fs cs,h,k=>by simp only[AV.ptB,Bool.and_eq_true]at h;exact⟨AV.pt_fineL fs h.1 k.1,AV.pt_fineL cs h.2 k.2⟩theorem AV.pt_fineL{keep:List Nat}:∀l:List AV,AV.ptBL keep l=true->AV.fineL vX l->AV.fineL (λi=>i∈keep) l|[],_,_=>trivial|a::l,h,k=>by simp only[AV.ptBL,Bool.and_eq_true]at h;exact⟨AV.pt_fine a h.1 k.1,AV.pt_fineL l h.2 k.2⟩end
mutual theorem AV.fine_any{p:Nat->Prop}:∀a:AV,a.fine p->a.fine vX|.val _,_=>trivial|.agg cs,h=>AV.fine_anyL cs h|.tup cs,h=>AV.fine_anyL cs h|.sl _ _ _,h=>h|.ip _,h=>h|.mp _ _,_=>trivial|.ms _ _ _ _ _,_=>trivial|.obj _,_=>trivial|.clo _ fs cs,h=>⟨AV.fine_anyL fs h.1,AV.fine_anyL cs h.2⟩theorem AV.fine_anyL{p:Nat->Prop}:∀l:List AV,AV.fineL p l->AV.fineL vX l|[],_=>trivial|a::l,h=>⟨AV.fine_any a h.1,AV.fine_anyL l h.2⟩end
mutual theorem AV.unren_any{r:Nat->Nat}{f:Nat->Option Nat}:∀a:AV,(a.ren r f).fine vX->a.fine vX|.val _,_=>trivial|.agg cs,h=>AV.unren_anyL cs h|.tup cs,h=>AV.unren_anyL cs h|.sl _ _ _,h=>h|.ip _,h=>h|.mp _ _,_=>trivial|.ms _ _ _ _ _,_=>trivial|.obj _,_=>trivial|.clo _ fs cs,h=>⟨AV.unren_anyL fs h.1,AV.unren_anyL cs h.2⟩theorem AV.unren_anyL{r:Nat->Nat}{f:Nat->Option Nat}:∀l:List AV,AV.fineL vX (AV.renL r f l)->AV.fineL vX l|[],_=>trivial|a::l,h=>⟨AV.unren_any a h.1,AV.unren_anyL l h.2⟩end
mutual theorem AV.unfrz_any:∀a:AV,a.frz.fine vX->a.fine vX|.val _,_=>trivial|.agg cs,h=>AV.unfrz_anyL cs h|.tup cs,h=>AV.unfrz_anyL cs h|.sl _ _ _,h=>h|.ip _,h=>h|.mp _ _,_=>trivial|.ms _ _ _ _ _,_=>trivial|.obj _,_=>trivial|.clo _ fs cs,h=>⟨AV.unfrz_anyL fs h.1,AV.unfrz_anyL cs h.2⟩theorem AV.unfrz_anyL:∀l:List AV,AV.fineL vX (AV.frzL l)->AV.fineL vX l|[],_=>trivial|a::l,h=>⟨AV.unfrz_any a h.1,AV.unfrz_anyL l h.2⟩end
theorem zAu(a:AV)(h:(frz1 a).fine vX):a.fine vX:=by
 unfold frz1 at h;split at h;·exact h
 ·exact AV.unfrz_any _ h
theorem W5:∀l:List AV,AV.fineL vX (l.map frz1)->AV.fineL vX l|[],_=>trivial|a::l,h=>⟨zAu a h.1,W5 l h.2⟩
theorem B3(a:AV)(h:(frzT a).fine vX):a.fine vX:=by
 unfold frzT at h;split at h;·exact W5 _ h
 ·exact zAu _ h
theorem zJf{keep:List Nat}(a:AV)(h:(frzN keep a).fine vX):a.fine vX:=by
 unfold frzN at h;split at h;·rename_i es n o;cases hb:o.nlB with|false=>rw[hb]at h;exact B3 _ h|true=>
  rw[hb]at h;simp only[cond_true]at h;split at h;·trivial
  ·exact B3 _ h
 ·exact B3 _ h
theorem zJe(a:AV)(h:a.frzK.fine vX):a.fine vX:=by
 unfold AV.frzK at h;split at h;·rename_i es n o;cases hb:o.nlB with|false=>rw[hb]at h;exact h|true=>
  rw[hb]at h;simp only[cond_true]at h;split at h;·trivial
  ·exact h
 ·exact AV.unfrz_any _ h
theorem W6:∀l:List AV,AV.fineL vX (l.map AV.frzK)->AV.fineL vX l|[],_=>trivial|a::l,h=>⟨zJe a h.1,W6 l h.2⟩
theorem yL.fine_any{p:Nat->Prop}{X:yL}(h:X.fine p):X.fine vX:=by cases X with|cells cs=>exact AV.fine_anyL cs h|obj o=>trivial|row cs=>exact h|dead=>trivial
theorem yL.unfz_any{k:Bool}{X:yL}(h:(X.fzB k).fine vX):X.fine vX:=by cases X with
 |cells cs=>cases k with|true=>exact W6 cs h|false=>exact AV.unfrz_anyL cs h
 |obj o=>trivial|row cs=>exact h|dead=>trivial
theorem yL.unren_any{r:Nat->Nat}{f:Nat->Option Nat}{X:yL}(h:(X.ren r f).fine vX):X.fine vX:=by cases X with|cells cs=>exact AV.unren_anyL cs h|obj o=>trivial|row cs=>exact h|dead=>trivial
def yL.ptB(keep:List Nat):yL->Bool|.cells cs=>AV.ptBL keep cs|_=>true
theorem yL.pt_fine{keep:List Nat}{X:yL}(h:X.ptB keep=true)(k:X.fine vX):X.fine (λi=>i∈keep):=by cases X with|cells cs=>exact AV.pt_fineL cs h k|obj o=>trivial|row cs=>exact k|dead=>trivial
def W7(keep:List Nat)(s:xB):List Nat->Bool|[]=>true|i::l=>((look s.H i).getD (.cells [])).ptB keep&&W7 keep s l
theorem zAt{keep:List Nat}{s:xB}:∀l:List Nat,W7 keep s l=true->(∀i∈l,((look s.H i).getD (.cells [])).fine vX)->nV keep s l|[],_,_=>trivial|i::l,h,k=>by simp only[W7,Bool.and_eq_true]at h;exact⟨yL.pt_fine h.1 (k i (List.mem_cons_self ..)),zAt l h.2 λj hj=>k j (List.mem_cons_of_mem _ hj)⟩
def zQk(keep live:List Nat):List AV->Nat->Bool|[],_=>true|a::l,t=>(bif qS live t then a.ptB keep else true)&&zQk keep live l (t+1)
theorem zLe{keep ks live:List Nat}{j:Nat->Value}:∀(env:List AV)(t:Nat),zQk keep live env t=true->AV.fineL vX (reEnv keep ks live j env t)->iT keep live env t|[],_,_,_=>trivial|a::l,t,h,k=>by simp only[zQk,Bool.and_eq_true]at h;simp only[reEnv,AV.fineL]at k;refine⟨?_,zLe l (t+1) h.2 k.2⟩;cases hm:qS live t with|false=>trivial|true=>have h1:=h.1;have k1:=k.1;rw[hm]at h1 k1;exact AV.pt_fine a h1 (AV.unren_any a k1)
theorem zAs{H:List (Nat×yL)}{keep ks:List Nat}:∀(l:List Nat)(j:Nat),(∀p∈mI H keep ks l j,p.2.fine vX)->∀i∈l,((look H i).getD (.cells [])).fine vX
 |[],_,_,_,h=>nomatch h|i::l,j,h,k,hk=>by
  rcases List.mem_cons.1 hk with rfl|hk;·exact yL.unren_any (h _ (List.mem_cons_self ..))
  ·exact zAs l (j+1) (λp hp=>h p (List.mem_cons_of_mem _ hp)) k hk
theorem zAr{H:List (Nat×yL)}{keep ks:List Nat}:∀(l:List Nat)(j m:Nat),m=l.length->(∀t,t<m->(look (mI H keep ks keep 0) (j+t))=(l[t]?).map λi=>((look H i).getD (.cells [])).ren (tJ keep) (place ks))->(∀X∈sU (mI H keep ks keep 0) j m,X.fine vX)->∀i∈l,((look H i).getD (.cells [])).fine vX
 |[],_,_,_,_,_,_,h=>nomatch h|i::l,j,m,hm,hl,h,k,hk=>by
  subst hm;simp only[List.length_cons,sU]at h;rcases List.mem_cons.1 hk with rfl|hk
  ·have h0:=h _ (List.mem_cons_self ..);have:=hl 0 (by simp);simp only[Nat.add_zero,List.getElem?_cons_zero,Option.map_some]at this;rw[this]at h0;exact yL.unren_any h0
  ·refine zAr l (j+1) l.length rfl (λt ht=>?_) (λX hX=>h X (List.mem_cons_of_mem _ hX)) k hk;have:=hl (t+1) (by simpa using ht);rw[show j+1+t=j+(t+1)by omega,this];simp
def aP(P:Program)(pr:FuncId->List AV->xB->Option LA)(na:Nat)(fn:Func)(n:Nat)(m:Md)(fs:List Fr)(env:List AV)(s:xB)(os:List lI)(rs:List (Option Nat×Nat×Nat))(keep ks:List Nat)(own:Bool):Option (AV×List yL×List Ob):=match pU P pr n m fs env s os with
 |some (.fin x,env1,s1,[],ob)=>match x with|.exit _=>none|_=>match restamps rs env1 s1 with|none=>none|some (env',s')=>match j5 P (look s'.H) env' fn.results.toList with
  |some r=>bif reB na keep ks s'&&(W7 keep s' keep&&r.ptB keep)then some (bif own then frzN keep (r.ren (tJ keep) (place ks))else(r.ren (tJ keep) (place ks)).frz,(sU (jS keep ks s').H 0 keep.length).map (yL.fzB own),ob)else none|none=>none
 |_=>none
theorem zGk{P:Program}{pr:FuncId->List AV->xB->Option LA}(hp:qI P pr)(hm:P.follows .mixedOrders=true){na:Nb}{fn:Func}{n:Nat}{m:Md}{fs:List Fr}{env:List AV}{s:xB}{os:List lI}{rs:List (Option Nat×Nat×Nat)}{keep ks:List Nat}{own:Bool}{res:AV}{H1:List yL}{nst:Nat}{ob:List Ob}(h:aP P pr na.n fn n m fs env s os rs keep ks own=some (res,H1,ob))(hob:yV P ob)(hn:nst<=ks.length)(fr:res.fine vX)(fb:∀X∈H1,X.fine vX):zCF P na (nB P na fn res H1 nst) fs env s m:=by
 unfold aP at h;split at h
 ·rename_i x env1 s1 ob' hr;have key:(x=.normal\/x=.ret)/\∃env' s',restamps rs env1 s1=some (env',s')/\∃r,j5 P (look s'.H) env' fn.results.toList=some r/\(bif reB na.n keep ks s'&&(W7 keep s' keep&&r.ptB keep)then some (bif own then frzN keep (r.ren (tJ keep) (place ks))else(r.ren (tJ keep) (place ks)).frz,(sU (jS keep ks s').H 0 keep.length).map (yL.fzB own),ob')else none)=some (res,H1,ob):=by cases x with
   |exit i=>cases h|normal=>
    simp only at h;split at h;·cases h
    rename_i env' s' hrs;split at h;·rename_i r hr;exact⟨.inl rfl,env',s',hrs,r,hr,h⟩
    ·cases h|ret=>
    simp only at h;split at h;·cases h
    rename_i env' s' hrs;split at h;·rename_i r hr;exact⟨.inr rfl,env',s',hrs,r,hr,h⟩
    ·cases h
  obtain⟨hx,env',s',hrs,r,hres,h⟩:=key;cases hb:reB na.n keep ks s'&&(W7 keep s' keep&&r.ptB keep)with|false=>rw[hb]at h;cases h|true=>
   rw[hb]at h;simp only[cond_true,Option.some.injEq,Prod.mk.injEq]at h;obtain⟨e1,rfl,rfl⟩:=h;simp only[Bool.and_eq_true]at hb;obtain⟨b1,b2,b3⟩:=hb;have hfr:r.fine vX:=by subst e1;cases own with|true=>exact AV.unren_any _ (zJf _ fr)|false=>exact AV.unren_any _ (AV.unfrz_any _ fr)
   have hfb:∀i∈keep,((look s'.H i).getD (.cells [])).fine vX:=by refine zAr (keep:=keep) (ks:=ks) keep 0 keep.length rfl (λt ht=>?_) λX hX=>yL.unfz_any (fb _ (List.mem_map_of_mem hX));rw[kU];simp
   refine nM hp hm _ _ _ _ _ _ _ _ _ _ _ hr hob ⟨hx,rs,env',s',hrs,r,keep,ks,hres,b1,zAt _ b2 hfb,AV.pt_fine _ b3 hfr,λG w u hu=>?_,⟨own,rfl⟩,hn⟩;subst e1;cases own with|true=>exact V.frzN hu|false=>exact V.frz _ _ hu
 ·cases h
def B4(P:Program)(pr:FuncId->List AV->xB->Option LA)(na n:Nat)(m:Md)(fs:List Fr)(env:List AV)(s:xB)(os:List lI)(rs:List (Option Nat×Nat×Nat))(keep ks live:List Nat)(j:Nat->Value):Option (Code×List Fr×List AV×xB×List Ob):=match pU P pr n m fs env s os with
 |some (.head c fs',env1,s1,[],ob)=>match restamps rs env1 s1 with
  |none=>none|some (env',s')=>bif reB na keep ks s'&&(W7 keep s' keep&&zQk keep live env' 0)then some (c,fs',reEnv keep ks live j env' 0,jS keep ks s',ob)else none
 |_=>none
theorem zCO{P:Program}{pr:FuncId->List AV->xB->Option LA}(hp:qI P pr)(hm:P.follows .mixedOrders=true){na:Nb}{Q:AX->List AV->xB->Prop}{n:Nat}{m:Md}{fs fs':List Fr}{env:List AV}{E:(Nat->Value)->List AV}{s S:xB}{os:List lI}{rs:List (Option Nat×Nat×Nat)}{keep ks live:List Nat}{c:Code}{ob:List Ob}(h:∀j,B4 P pr na.n n m fs env s os rs keep ks live j=some (c,fs',E j,S,ob))(hob:yV P ob)(fe:∀j,AV.fineL vX (E j))(fb:∀p∈S.H,p.2.fine vX)(hk:∀j,Dl P na c (E j) S (vF P na Q fs')):zCF P na Q fs env s m:=by
 have h0:=h λ_=>undef;unfold B4 at h0;split at h0
 ·rename_i c' fs1 env1 s1 ob' hr;split at h0;·cases h0
  rename_i env' s' hrs;cases hb:reB na.n keep ks s'&&(W7 keep s' keep&&zQk keep live env' 0)with|false=>rw[hb]at h0;cases h0|true=>rw[hb]at h0;simp only[cond_true,Option.some.injEq,Prod.mk.injEq]at h0;obtain⟨rfl,rfl,e0,rfl,rfl⟩:=h0;have hb':=hb;simp only[Bool.and_eq_true]at hb';obtain⟨b1,b2,b3⟩:=hb';refine nM hp hm _ _ _ _ _ _ _ _ _ _ _ hr hob ?_;refine Dl.restamps hrs ?_;refine Dl.re keep ks live b1 (zAt _ b2 (zAs keep 0 fb)) (zLe _ _ b3 (by rw[e0];exact fe _)) λj=>?_;have hj:=h j;unfold B4 at hj;rw[hr]at hj;simp only[hrs,hb,cond_true,Option.some.injEq,Prod.mk.injEq]at hj;rw[hj.2.2.1];exact hk j
 ·cases h0
theorem J2(j:Nat->Value):∀(n i:Nat)(l:List (Nat×AV)),(∀p∈l,p.2.fine vX)->AV.fineL vX (sp j n i l)|0,_,_,_=>trivial|n+1,i,[],_=>⟨trivial,J2 j n (i+1) [] (λ_ h=>nomatch h)⟩|n+1,i,(m,a)::l,h=>by rw[sp];cases Nat.beq m i with|true=>exact⟨h _ (List.mem_cons_self ..),J2 j n (i+1) l λp hp=>h p (List.mem_cons_of_mem _ hp)⟩|false=>exact⟨trivial,J2 j n (i+1) _ h⟩
class Cd{α:Type}(c:α->List AV):Prop where data:∀x,AV.DataL (c x)
theorem Cd.d{α:Type}{c:α->List AV}[Cd c](l:List α):AV.DataL (zC c l):=vO Cd.data l
instance:Cd zA:=⟨uW.data⟩
instance:Cd P5:=⟨λt=>by rw[<-xY];exact uW.data t⟩
instance:Cd zZ:=⟨lU.data⟩
instance:Cd P6:=⟨zJi.data⟩
instance:Cd xA:=⟨zEk.data⟩
instance:Cd A8:=⟨zEj.data⟩
instance:Cd pX:=⟨zEi.data⟩
def Rn(P:Program){ρ:Type}(T:ρ->Prop)(os:List lI)(ob:List Ob)(o:Option ρ):Prop:=∀r,o=some r->OL P os ob->T r
theorem sD{α β:Type}{p:α⊕β->Prop}(h:∀a,p (.inl a))(k:∀b,p (.inr b)):∀x,p x|.inl a=>h a|.inr b=>k b
def Cs(P:Program){ρ:Type}(o:Option ρ)(f:FuncId)(H0:List yL)(args:List AV)(res:ρ->AV)(H1:ρ->List yL)(nst:Nat):Prop:=∀r,o=some r->CT P f H0 args (res r) (H1 r) nst
def Ls(P:Program){ρ:Type}(o:Option ρ)(na:Nb)(fn:Func)(c:Code)(E:(Nat->Value)->List AV)(S:xB)(res:ρ->AV)(H1:ρ->List yL)(nst:Nat)(fs:List Fr):Prop:=∀r,o=some r->∀j,Dl P na c (E j) S (vF P na (nB P na fn (res r) (H1 r) nst) fs)
theorem cN{P:Program}{ρ:Type}{f:FuncId}{H0:List yL}{args:List AV}{res:ρ->AV}{H1:ρ->List yL}{nst:Nat}:Cs P none f H0 args res H1 nst:=λ_ h=>nomatch h
theorem lN{P:Program}{ρ:Type}{na:Nb}{fn:Func}{c:Code}{E:(Nat->Value)->List AV}{S:xB}{res:ρ->AV}{H1:ρ->List yL}{nst:Nat}{fs:List Fr}:Ls P none na fn c E S res H1 nst fs:=λ_ h=>nomatch h
section
variable{P:Program}{ρ α:Type}{T:ρ->Prop}{os:List lI}{ob:List Ob}
theorem rN:Rn P T os ob none:=λ_ h=>nomatch h
theorem rH{o:Option α}{f:α->Option ρ}(k:∀a,o=some a->Rn P T os ob (f a)):Rn P T os ob (o>>=f):=λr h q=>by obtain⟨a,h1,h2⟩:=wS h;exact k a h1 r h2 q
theorem rI{c:Bool}{x y:Option ρ}(k1:c=true->Rn P T os ob x)(k2:c=false->Rn P T os ob y):Rn P T os ob (if c=true then x else y):=λr h q=>by
 rcases w9 h with⟨h1,h⟩|⟨h1,h⟩;·exact k1 h1 r h q
 ·exact k2 h1 r h q
theorem rS{os':List lI}{ob':List Ob}{o:Option ρ}(w:OL P os ob->OL P os' ob')(k:Rn P T os' ob' o):Rn P T os ob o:=λr h q=>k r h (w q)
theorem rW{o:Option α}{f:α->Option ρ}{os':α->List lI}{ob':α->List Ob}(w:∀{a},o=some a->OL P os ob->OL P (os' a) (ob' a))(k:∀a,Rn P T (os' a) (ob' a) (f a)):Rn P T os ob (o>>=f):=rH λa h=>rS (w h) (k a)
theorem rA{o:Option α}{f:α->Option ρ}{X:Option AV}{c:α->AV}(n:Nat)(w:∀{a},o=some a->X=some (c a))(k:∀a,Rn P T (.av (c a)::(kN n++os)) (.av X (c a)::ob) (f a)):Rn P T os ob (o>>=f):=rH λa h=>rS (oA n (w h)) (k a)
theorem rC{o:Option α}{g:α->Option ρ}{f:FuncId}{H0:List yL}{args:List AV}{res:α->AV}{H1:α->List yL}{nst:Nat}(n:Nat)(ι:List Nat)(w:Cs P o f H0 args res H1 nst)(k:∀a,Rn P T (.call ι (H1 a) nst (res a) none::(kN n++os)) (.call f H0 args (res a) (H1 a) nst::ob) (g a)):Rn P T os ob (o>>=g):=rH λa h=>rS (oC n ι (w a h)) (k a)
theorem rB{c:Bool}{x y:Option ρ}(n:Nat)(k1:Rn P T (.bit true::(kN n++os)) (.bit c true::ob) x)(k2:Rn P T (.bit false::(kN n++os)) (.bit c false::ob) y):Rn P T os ob (if c=true then x else y):=rI (λh=>rS (oB n h) k1) λh=>rS (oB n h) k2
theorem rK{o:Option α}{c:α->Bool}{x y:α->Option ρ}{f:FuncId}{H0:List yL}{args:List AV}{res:α->AV}{H1:α->List yL}{nst:Nat}(n:Nat)(ι:List Nat)(w:Cs P o f H0 args res H1 nst)(k1:∀a,Rn P T (.call ι (H1 a) nst (res a) (some true)::(kN n++os)) (.call f H0 args (res a) (H1 a) nst::.bit (c a) true::ob) (x a))(k2:∀a,Rn P T (.call ι (H1 a) nst (res a) (some false)::(kN n++os)) (.call f H0 args (res a) (H1 a) nst::.bit (c a) false::ob) (y a)):Rn P T os ob (o>>=λa=>if c a=true then x a else y a):=rH λa h=>rI (λh1=>rS (oK n ι h1 (w a h)) (k1 a)) λh1=>rS (oK n ι h1 (w a h)) (k2 a)
theorem rZ(b:Prop){o:Option ρ}(k1:b->Rn P T os ob o)(k2:¬b->Rn P T os ob o):Rn P T os ob o:=(Classical.em b).elim k1 k2
end
def fT(P:Program){ρ:Type}(f:FuncId)(fn:Func)(H0:List yL)(args:List AV)(res:ρ->AV)(H1:ρ->List yL)(nst:Nat)(r:ρ):Prop:=P.funcs[f]?=some fn->fn.body.isNone=false->((res r).fine vX/\∀X∈H1 r,X.fine vX)->uS P f H0 args (res r) (H1 r) nst
def lT(P:Program){ρ:Type}(na:Nb)(fn:Func)(res:ρ->AV)(H1:ρ->List yL)(nst:Nat)(c:Code)(fs:List Fr)(env:List AV)(s:xB)(r:ρ):Prop:=((res r).fine vX/\∀X∈H1 r,X.fine vX)->Dl P na c env s (vF P na (nB P na fn (res r) (H1 r) nst) fs)
section
variable{P:Program}{ρ:Type}{res:ρ->AV}{H1:ρ->List yL}{nst:Nat}{fn:Func}{o:Option ρ}
def yBq(H0:List yL)(args:List AV)(res:ρ->AV)(H1:ρ->List yL):Prop:=AV.argL (λi=>i<H0.length) args/\(∀X∈H0,X.arg (λi=>i<H0.length))/\∀r,(res r).fine (λi=>i<(H1 r).length)/\∀X∈H1 r,X.fine (λi=>i<(H1 r).length)
theorem fW{f:FuncId}{H0:List yL}{args:List AV}(q1:P.funcs[f]?=some fn)(q2:fn.body.isNone=false)(a:yBq H0 args res H1)(k:Rn P (fT P f fn H0 args res H1 nst) [] [] o):Cs P o f H0 args res H1 nst:=λr h=>⟨k r h OL.nil q1 q2 ⟨AV.fine_any _ (a.2.2 r).1,λX hX=>yL.fine_any ((a.2.2 r).2 X hX)⟩,a.1,a.2.1,(a.2.2 r).1,(a.2.2 r).2⟩
theorem lW{na:Nb}{c:Code}{fs:List Fr}{E:(Nat->Value)->List AV}{s:xB}(a:∀r,(res r).fine vX/\∀X∈H1 r,X.fine vX)(k:∀j,Rn P (lT P na fn res H1 nst c fs (E j) s) [] [] o):Ls P o na fn c E s res H1 nst fs:=λr h j=>k j r h OL.nil (a r)
variable{pr:FuncId->List AV->xB->Option LA}(hp:qI P pr)(hm:P.follows .mixedOrders=true){os:List lI}{ob:List Ob}{x:ρ}
include hp hm
theorem zXU{f:FuncId}{H0:List yL}{args:List AV}(m:Nat)(rs:List (Option Nat×Nat×Nat))(keep ks:List Nat)(own:Bool)(h:aP P pr H0.length fn 3000 (.run (tT fn)) [] (args++List.replicate (fn.ntmps-args.length) (.val undef)) (A3 H0) ((kN m++os).reverseAux []) rs keep ks own=some (res x,H1 x,ob.reverseAux []))(hn:nst<=ks.length):Rn P (fT P f fn H0 args res H1 nst) os ob (some x):=by intro r e q q1 q2 a;cases e;exact uS.body q1 q2 (zGk (na:=(H0.length:Nb)) (m:=.run (tT fn)) (fs:=[]) hp hm h (yV.rev _ _ q.ok trivial) hn a.1 a.2)
theorem yBp{f:FuncId}{H0:List yL}{args:List AV}(m:Nat)(rs:List (Option Nat×Nat×Nat))(keep ks live:List Nat){c:Code}{fs':List Fr}{E:(Nat->Value)->List AV}{S:xB}(hk:Ls P o H0.length fn c E S res H1 nst fs')(h:∀j,B4 P pr H0.length 3000 (.run (tT fn)) [] (args++List.replicate (fn.ntmps-args.length) (.val undef)) (A3 H0) ((kN m++os).reverseAux []) rs keep ks live j=some (c,fs',E j,S,ob.reverseAux []))(fe:∀j,AV.fineL vX (E j))(fb:∀p∈S.H,p.2.fine vX):Rn P (fT P f fn H0 args res H1 nst) os ob o:=by intro r e q q1 q2 _;exact uS.body q1 q2 (zCO (na:=(H0.length:Nb)) (m:=.run (tT fn)) (fs:=[]) hp hm h (yV.rev _ _ q.ok trivial) fe fb (hk r e))
variable{na:Nb}{c:Code}{fs:List Fr}{env:List AV}{s:xB}
theorem lFin(m:Nat)(rs:List (Option Nat×Nat×Nat))(keep ks:List Nat)(own:Bool)(h:aP P pr na.n fn 3000 (.run c) (.loop c::fs) env s ((kN m++os).reverseAux []) rs keep ks own=some (res x,H1 x,ob.reverseAux []))(hn:nst<=ks.length):Rn P (lT P na fn res H1 nst c fs env s) os ob (some x):=by intro r e q a;cases e;exact Dl.step (zGk hp hm (m:=.run c) (fs:=.loop c::fs) h (yV.rev _ _ q.ok trivial) hn a.1 a.2)
theorem lHead(m:Nat)(rs:List (Option Nat×Nat×Nat))(keep ks live:List Nat){c':Code}{fs':List Fr}{E:(Nat->Value)->List AV}{S:xB}(hk:Ls P o na fn c' E S res H1 nst fs')(h:∀j,B4 P pr na.n 3000 (.run c) (.loop c::fs) env s ((kN m++os).reverseAux []) rs keep ks live j=some (c',fs',E j,S,ob.reverseAux []))(fe:∀j,AV.fineL vX (E j))(fb:∀p∈S.H,p.2.fine vX):Rn P (lT P na fn res H1 nst c fs env s) os ob o:=by intro r e q _;exact Dl.step (zCO hp hm (m:=.run c) (fs:=.loop c::fs) h (yV.rev _ _ q.ok trivial) fe fb (hk r e))
end
end Go.Ab
set_option linter.unusedSimpArgs false
namespace Go.Ab
open Go Go.RowKit
def rD{α:Type}(c:α->List AV)(l:List α):List AV:=[.sl (zC c l) l.length .no]
theorem zQj{α:Type}{c:α->List AV}{n:Nat}(h:vB c n):vB (rD c) 1:=⟨λ_=>rfl,λl=>⟨⟨trivial,vO h.data l⟩,trivial⟩,λ_=>rfl⟩
instance{α:Type}{c:α->List AV}[h:Cd c]:Cd (rD c):=⟨λx=>⟨⟨trivial,vO h.data x⟩,trivial⟩⟩
def boC(b:Bool):List AV:=[ab b]
theorem zJd:vB boC 1:=⟨λ_=>rfl,λ_=>⟨trivial,trivial⟩,λ_=>rfl⟩
instance:Cd boC:=⟨zJd.data⟩
theorem dB(l:List Bool):AV.DataL (zC boC l):=vO zJd.data l
theorem xJ{P:Program}{α:Type}{C L:α->List AV}(he:∀t,C t=L t)(l:List α):Ob.ok P (.cells (zC L l) (zC C l) l.length l.length):=⟨by rw[show L=C from funext λt=>(he t).symm],rfl⟩
inductive zB where|mk(kind_:Int)(n_:Int)(at_:Int)(sub_:List zB)(t_:Tm)
def zB.kind_:zB->Int|.mk x _ _ _ _=>x
def zB.n_:zB->Int|.mk _ x _ _ _=>x
def zB.at_:zB->Int|.mk _ _ x _ _=>x
def zB.sub_:zB->List zB|.mk _ _ _ x _=>x
def zB.t_:zB->Tm|.mk _ _ _ _ x=>x
instance:Inhabited zB:=⟨.mk default default default default default⟩
mutual def zK:zB->List AV|.mk kind_ n_ at_ sub_ t_=>[ai kind_,ai n_,ai at_,.sl (qK sub_) sub_.length .no,ai t_.k,ai t_.n,zN zA t_.sub .no]def qK:List zB->List AV|[]=>[]|t::l=>zK t++qK l end
theorem nD:∀l:List zB,qK l=zC zK l|[]=>rfl|t::l=>by simp only[qK,nD l,zC,List.flatMap_cons]
def kW(x:zB):List AV:=[ai x.kind_,ai x.n_,ai x.at_,zN zK x.sub_ .no,ai x.t_.k,ai x.t_.n,zN zA x.t_.sub .no]
theorem uL(x:zB):zK x=kW x:=by cases x;simp only[zK,kW,zB.kind_,zB.n_,zB.at_,zB.sub_,zB.t_,nD,List.cons_append,List.nil_append]
def wT(x:zB):AV:=.agg (kW x)
mutual theorem fJ:∀t:zB,AV.DataL (zK t)|.mk kind_ n_ at_ sub_ t_=>by rw[zK];exact⟨trivial,trivial,trivial,⟨trivial,jX sub_⟩,trivial,trivial,⟨trivial,dT _⟩,trivial⟩theorem jX:∀l:List zB,AV.DataL (qK l)|[]=>trivial|t::l=>by rw[qK];exact sV (fJ t) (jX l)end
theorem tQ:vB zK 7:=⟨λx=>by rw[uL];rfl,fJ,λx=>by rw[uL];rfl⟩
instance:Cd zK:=⟨tQ.data⟩
theorem zGj(l:List zB):AV.DataL (zC zK l):=vO tQ.data l
structure uG where
 types_:List Tm
 rows_:List (List zB)fuel_:Int
instance:Inhabited uG:=⟨⟨default,default,default⟩⟩
def eG(x:uG):List AV:=[zN zA x.types_ .no,zN (rD zK) x.rows_ .no,ai x.fuel_]
def J3(x:uG):AV:=.agg (eG x)
structure zO where
 n_:Int
 t_:Tm
instance:Inhabited zO:=⟨⟨default,default⟩⟩
def zM(x:zO):List AV:=[ai x.n_,ai x.t_.k,ai x.t_.n,zN zA x.t_.sub .no]
theorem wR:vB zM 4:=⟨λ_=>rfl,λ_=>⟨trivial,trivial,trivial,⟨trivial,dT _⟩,trivial⟩,λ_=>rfl⟩
instance:Cd zM:=⟨wR.data⟩
theorem yG(l:List zO):AV.DataL (zC zM l):=vO wR.data l
structure zJ where
 n_:Int
 type_:Tm
instance:Inhabited zJ:=⟨⟨default,default⟩⟩
def zD(x:zJ):List AV:=[ai x.n_,ai x.type_.k,ai x.type_.n,zN zA x.type_.sub .no]
def zQh(x:zJ):AV:=.agg (zD x)
theorem wO:vB zD 4:=⟨λ_=>rfl,λ_=>⟨trivial,trivial,trivial,⟨trivial,dT _⟩,trivial⟩,λ_=>rfl⟩
instance:Cd zD:=⟨wO.data⟩
theorem yE(l:List zJ):AV.DataL (zC zD l):=vO wO.data l
mutual inductive yO where|mk(con_:Int)(yes_:Bool)(args_:List Int)(solved_:List zO)(t_:zP)inductive zP where|mk(kind_:Int)(row_:Int)(var_:Int)(vars_:List zJ)(binds_:List Tm)(args_:List Tm)(kids_:List yO)end
def yO.con_:yO->Int|.mk x _ _ _ _=>x
def yO.yes_:yO->Bool|.mk _ x _ _ _=>x
def yO.args_:yO->List Int|.mk _ _ x _ _=>x
def yO.solved_:yO->List zO|.mk _ _ _ x _=>x
def yO.t_:yO->zP|.mk _ _ _ _ x=>x
def zP.kind_:zP->Int|.mk x _ _ _ _ _ _=>x
def zP.row_:zP->Int|.mk _ x _ _ _ _ _=>x
def zP.var_:zP->Int|.mk _ _ x _ _ _ _=>x
def zP.vars_:zP->List zJ|.mk _ _ _ x _ _ _=>x
def zP.binds_:zP->List Tm|.mk _ _ _ _ x _ _=>x
def zP.args_:zP->List Tm|.mk _ _ _ _ _ x _=>x
def zP.kids_:zP->List yO|.mk _ _ _ _ _ _ x=>x
instance:Inhabited zP:=⟨.mk default default default default default default default⟩
instance:Inhabited yO:=⟨.mk default default default default default⟩
mutual def wE:yO->List AV|.mk con_ yes_ args_ solved_ t_=>[ai con_,ab yes_,zN zZ args_ .no,zN zM solved_ .no]++wD t_ def wD:zP->List AV|.mk kind_ row_ var_ vars_ binds_ args_ kids_=>[ai kind_,ai row_,ai var_,zN zD vars_ .no,zN zA binds_ .no,zN zA args_ .no,.sl (rY kids_) kids_.length .no]def rY:List yO->List AV|[]=>[]|t::l=>wE t++rY l end
theorem lX:∀l:List yO,rY l=zC wE l|[]=>rfl|t::l=>by simp only[rY,lX l,zC,List.flatMap_cons]
def sW(x:zP):List AV:=[ai x.kind_,ai x.row_,ai x.var_,zN zD x.vars_ .no,zN zA x.binds_ .no,zN zA x.args_ .no,zN wE x.kids_ .no]
theorem uM(x:zP):wD x=sW x:=by cases x;simp only[wD,sW,zP.kind_,zP.row_,zP.var_,zP.vars_,zP.binds_,zP.args_,zP.kids_,lX,List.cons_append,List.nil_append]
def xW(x:zP):AV:=.agg (sW x)
def Q1(x:yO):List AV:=[ai x.con_,ab x.yes_,zN zZ x.args_ .no,zN zM x.solved_ .no,ai x.t_.kind_,ai x.t_.row_,ai x.t_.var_,zN zD x.t_.vars_ .no,zN zA x.t_.binds_ .no,zN zA x.t_.args_ .no,zN wE x.t_.kids_ .no]
theorem eH(x:yO):wE x=Q1 x:=by cases x;simp only[wE,Q1,yO.con_,yO.yes_,yO.args_,yO.solved_,yO.t_,uM,sW,lX,List.cons_append,List.nil_append]
def zCP(x:yO):AV:=.agg (Q1 x)
mutual theorem aQ:∀t:yO,AV.DataL (wE t)|.mk con_ yes_ args_ solved_ t_=>by rw[wE];exact sV (⟨trivial,trivial,⟨trivial,dI _⟩,⟨trivial,yG _⟩,trivial⟩) (eI t_)theorem eI:∀t:zP,AV.DataL (wD t)|.mk kind_ row_ var_ vars_ binds_ args_ kids_=>by rw[wD];exact⟨trivial,trivial,trivial,⟨trivial,yE _⟩,⟨trivial,dT _⟩,⟨trivial,dT _⟩,⟨trivial,eJ kids_⟩,trivial⟩theorem eJ:∀l:List yO,AV.DataL (rY l)|[]=>trivial|t::l=>by rw[rY];exact sV (aQ t) (eJ l)end
theorem nN:vB wE 11:=⟨λx=>by rw[eH];rfl,aQ,λx=>by rw[eH];rfl⟩
instance:Cd wE:=⟨nN.data⟩
theorem zCQ(l:List yO):AV.DataL (zC wE l):=vO nN.data l
theorem lY:vB wD 7:=⟨λx=>by rw[uM];rfl,eI,λx=>by rw[uM];rfl⟩
instance:Cd wD:=⟨lY.data⟩
theorem zJc(l:List zP):AV.DataL (zC wD l):=vO lY.data l
structure yQ where
 e_:Int
 row_:Int
 at_:Int
instance:Inhabited yQ:=⟨⟨default,default,default⟩⟩
def zGi(x:yQ):List AV:=[ai x.e_,ai x.row_,ai x.at_]
def kX(x:yQ):AV:=.agg (zGi x)
structure uX where
 n_:Int
 type_:Tm
instance:Inhabited uX:=⟨⟨default,default⟩⟩
def vJ(x:uX):List AV:=[ai x.n_,ai x.type_.k,ai x.type_.n,zN zA x.type_.sub .no]
theorem eK:vB vJ 4:=⟨λ_=>rfl,λ_=>⟨trivial,trivial,trivial,⟨trivial,dT _⟩,trivial⟩,λ_=>rfl⟩
instance:Cd vJ:=⟨eK.data⟩
structure uA where
 how_:Int
 n_:Int
 at_:Int
 binds_:List Tm
instance:Inhabited uA:=⟨⟨default,default,default,default⟩⟩
def zQg(x:uA):List AV:=[ai x.how_,ai x.n_,ai x.at_,zN zA x.binds_ .no]
def J4(x:uA):AV:=.agg (zQg x)
inductive yP where|mk(kind_:Int)(n_:Int)(at_:Int)(sub_:List yP)(t_:Tm)
def yP.kind_:yP->Int|.mk x _ _ _ _=>x
def yP.n_:yP->Int|.mk _ x _ _ _=>x
def yP.at_:yP->Int|.mk _ _ x _ _=>x
def yP.sub_:yP->List yP|.mk _ _ _ x _=>x
def yP.t_:yP->Tm|.mk _ _ _ _ x=>x
instance:Inhabited yP:=⟨.mk default default default default default⟩
mutual def wA:yP->List AV|.mk kind_ n_ at_ sub_ t_=>[ai kind_,ai n_,ai at_,.sl (jY sub_) sub_.length .no,ai t_.k,ai t_.n,zN zA t_.sub .no]def jY:List yP->List AV|[]=>[]|t::l=>wA t++jY l end
theorem J5:∀l:List yP,jY l=zC wA l|[]=>rfl|t::l=>by simp only[jY,J5 l,zC,List.flatMap_cons]
def u0(x:yP):List AV:=[ai x.kind_,ai x.n_,ai x.at_,zN wA x.sub_ .no,ai x.t_.k,ai x.t_.n,zN zA x.t_.sub .no]
theorem jZ(x:yP):wA x=u0 x:=by cases x;simp only[wA,u0,yP.kind_,yP.n_,yP.at_,yP.sub_,yP.t_,J5,List.cons_append,List.nil_append]
def u3(x:yP):AV:=.agg (u0 x)
mutual theorem W8:∀t:yP,AV.DataL (wA t)|.mk kind_ n_ at_ sub_ t_=>by rw[wA];exact⟨trivial,trivial,trivial,⟨trivial,J6 sub_⟩,trivial,trivial,⟨trivial,dT _⟩,trivial⟩theorem J6:∀l:List yP,AV.DataL (jY l)|[]=>trivial|t::l=>by rw[jY];exact sV (W8 t) (J6 l)end
theorem nX:vB wA 7:=⟨λx=>by rw[jZ];rfl,W8,λx=>by rw[jZ];rfl⟩
instance:Cd wA:=⟨nX.data⟩
structure xT where
 c_:List zJ
 args_:List Tm
instance:Inhabited xT:=⟨⟨default,default⟩⟩
def zGh(x:xT):List AV:=[zN zD x.c_ .no,zN zA x.args_ .no]
def pJ(x:xT):AV:=.agg (zGh x)
structure zNB where
 l_:List yI
 parts_:List tZ
instance:Inhabited zNB:=⟨⟨default,default⟩⟩
structure zNC where
 out_:Bool
 stuck_:Bool
 waits_:Bool
 none_:Bool
 n_:Int
 at_:Int
 binds_:List Tm
instance:Inhabited zNC:=⟨⟨default,default,default,default,default,default,default⟩⟩
structure zW where
 con_:Int
 yes_:Bool
 args_:List Int
 vars_:List zJ
 solved_:List zO
instance:Inhabited zW:=⟨⟨default,default,default,default,default⟩⟩
def yY(x:zW):List AV:=[ai x.con_,ab x.yes_,zN zZ x.args_ .no,zN zD x.vars_ .no,zN zM x.solved_ .no]
def mV(x:zW):AV:=.agg (yY x)
theorem qL:vB yY 5:=⟨λ_=>rfl,λ_=>⟨trivial,trivial,⟨trivial,dI _⟩,⟨trivial,yE _⟩,⟨trivial,yG _⟩,trivial⟩,λ_=>rfl⟩
instance:Cd yY:=⟨qL.data⟩
theorem uN(l:List zW):AV.DataL (zC yY l):=vO qL.data l
structure wC where
 yes_:Bool
 vars_:List zJ
 solved_:List zO
 steps_:List Int
instance:Inhabited wC:=⟨⟨default,default,default,default⟩⟩
def zEb(x:wC):List AV:=[ab x.yes_,zN zD x.vars_ .no,zN zM x.solved_ .no,zN zZ x.steps_ .no]
def vK(x:wC):AV:=.agg (zEb x)
structure zI where
 a_:Tm
 b_:Tm
instance:Inhabited zI:=⟨⟨default,default⟩⟩
def zQ(x:zI):List AV:=[ai x.a_.k,ai x.a_.n,zN zA x.a_.sub .no,ai x.b_.k,ai x.b_.n,zN zA x.b_.sub .no]
def eL(x:zI):AV:=.agg (zQ x)
theorem vM:vB zQ 6:=⟨λ_=>rfl,λ_=>⟨trivial,trivial,⟨trivial,dT _⟩,trivial,trivial,⟨trivial,dT _⟩,trivial⟩,λ_=>rfl⟩
instance:Cd zQ:=⟨vM.data⟩
theorem wQ(l:List zI):AV.DataL (zC zQ l):=vO vM.data l
structure zND where e_:Int
instance:Inhabited zND:=⟨⟨default⟩⟩
end Go.Ab
namespace Go.Proofs.YtohkcbcddindpaaGreat
open Go Go.Ab Go.Proofs.Tryz
theorem zAq(b:Bool):b=true\/b=false:=by cases b<;>simp
theorem yN{α:Type}{p:α->Prop}:∀x∈([]:List α),p x:=λ_ h=>nomatch h
theorem yJ{α:Type}{p:α->Prop}{a:α}{l:List α}(h:p a)(k:∀x∈l,p x):∀x∈a::l,p x:=by
 intro x hx;rcases List.mem_cons.1 hx with rfl|hx;·exact h
 ·exact k x hx
theorem o0:OL prog [] []:=OL.nil
abbrev mB(M:xK)(i:Nat):yL:=.cells [zN xA M.l .no,.mp i 0,zN zZ M.args .no,zN zZ M.own .no]
abbrev mR(M:xK):yL:=.cells [zN xA M.rl .no,zN pX M.parts .no]
theorem tv:True:=trivial
theorem lz{a b:Nat}(h:Nat.ble (a+1) b=true):a<b:=Nat.le_of_ble_eq_true h
abbrev Ct:=CT prog
abbrev Cz{ρ:Type}:=@Cs prog ρ
abbrev Lz{ρ:Type}:=@Ls prog ρ
abbrev Ci:=uS prog
abbrev Cf:=FuncId->List yL->List AV->AV->List yL->Nat->Prop
abbrev Qf(f:FuncId)(fn:Func):Prop:=prog.funcs[f]?=some fn/\fn.body.isNone=false
theorem xX{p:Nat->Prop}(z:p 0)(s:∀n,p n->p (n+1)):∀n,p n:=λn=>Nat.rec z s n
section
variable{ρ:Type}{res:ρ->AV}{H1:ρ->List yL}{nst:Nat}{fn:Func}{o:Option ρ}{r x:ρ}{f:FuncId}{H0:List yL}{args:List AV}{os:List lI}{ob:List Ob}
theorem fw(q1:prog.funcs[f]?=some fn)(k:Rn prog (fT prog f fn H0 args res H1 nst) [] [] o)(q2:fn.body.isNone=false:=by kernel_rfl)(a:yBq H0 args res H1:=by(repeat' first|exact Cd.d _|exact trivial|exact lz rfl|exact yN|refine And.intro ?_ ?_|refine yJ ?_ ?_|refine sD ?_ ?_|intro _)):Cs prog o f H0 args res H1 nst:=fW q1 q2 a k
theorem fG(m:Nat)(rs:List (Option Nat×Nat×Nat))(keep ks:List Nat)(own:Bool)(h:aP prog qU H0.length fn 3000 (.run (tT fn)) [] (args++List.replicate (fn.ntmps-args.length) (.val undef)) (A3 H0) ((kN m++os).reverseAux []) rs keep ks own=some (res x,H1 x,ob.reverseAux []):=by kernel_rfl)(hn:nst<=ks.length:=by decide):Rn prog (fT prog f fn H0 args res H1 nst) os ob (some x):=zXU wV mixed m rs keep ks own h hn
theorem fF(m:Nat)(keep:List Nat)(h:aP prog qU H0.length fn 3000 (.run (tT fn)) [] (args++List.replicate (fn.ntmps-args.length) (.val undef)) (A3 H0) ((kN m++os).reverseAux []) [] keep [] false=some (res x,H1 x,ob.reverseAux []):=by kernel_rfl):Rn prog (fT prog f fn H0 args res H1 0) os ob (some x):=zXU wV mixed m [] keep [] false h (Nat.le_refl _)
theorem fE(m:Nat)(h:aP prog qU H0.length fn 3000 (.run (tT fn)) [] (args++List.replicate (fn.ntmps-args.length) (.val undef)) (A3 H0) ((kN m++os).reverseAux []) [] (range' 0 H0.length) [] false=some (res x,H1 x,ob.reverseAux []):=by kernel_rfl):Rn prog (fT prog f fn H0 args res H1 0) os ob (some x):=zXU wV mixed m [] _ [] false h (Nat.le_refl _)
theorem fH(m:Nat)(rs:List (Option Nat×Nat×Nat))(keep ks live:List Nat){c:Code}{fs':List Fr}{E:(Nat->Value)->List AV}{S:xB}(hk:Ls prog o H0.length fn c E S res H1 nst fs')(h:∀j,B4 prog qU H0.length 3000 (.run (tT fn)) [] (args++List.replicate (fn.ntmps-args.length) (.val undef)) (A3 H0) ((kN m++os).reverseAux []) rs keep ks live j=some (c,fs',E j,S,ob.reverseAux []):=by intro j;kernel_rfl)(fe:∀j,AV.fineL vX (E j):=by intro j;refine J2 _ _ _ _ ?_;(repeat' first|exact Cd.d _|exact trivial|exact lz rfl|exact yN|refine And.intro ?_ ?_|refine yJ ?_ ?_|refine sD ?_ ?_|intro _))(fb:∀p∈S.H,p.2.fine vX:=by(repeat' first|exact Cd.d _|exact trivial|exact lz rfl|exact yN|refine And.intro ?_ ?_|refine yJ ?_ ?_|refine sD ?_ ?_|intro _)):Rn prog (fT prog f fn H0 args res H1 nst) os ob o:=yBp wV mixed m rs keep ks live hk h fe fb
variable{na:Nb}{c:Code}{fs:List Fr}{env:List AV}{s:xB}
theorem lw{E:(Nat->Value)->List AV}(k:∀j,Rn prog (lT prog na fn res H1 nst c fs (E j) s) [] [] o)(a:∀r,(res r).fine vX/\∀X∈H1 r,X.fine vX:=by(repeat' first|exact Cd.d _|exact trivial|exact lz rfl|exact yN|refine And.intro ?_ ?_|refine yJ ?_ ?_|refine sD ?_ ?_|intro _)):Ls prog o na fn c E s res H1 nst fs:=lW a k
theorem lG(m:Nat)(rs:List (Option Nat×Nat×Nat))(keep ks:List Nat)(own:Bool)(h:aP prog qU na.n fn 3000 (.run c) (.loop c::fs) env s ((kN m++os).reverseAux []) rs keep ks own=some (res x,H1 x,ob.reverseAux []):=by kernel_rfl)(hn:nst<=ks.length:=by decide):Rn prog (lT prog na fn res H1 nst c fs env s) os ob (some x):=lFin wV mixed m rs keep ks own h hn
theorem lF(m:Nat)(keep:List Nat)(h:aP prog qU na.n fn 3000 (.run c) (.loop c::fs) env s ((kN m++os).reverseAux []) [] keep [] false=some (res x,H1 x,ob.reverseAux []):=by kernel_rfl):Rn prog (lT prog na fn res H1 0 c fs env s) os ob (some x):=lFin wV mixed m [] keep [] false h (Nat.le_refl _)
theorem lE(m:Nat)(h:aP prog qU na.n fn 3000 (.run c) (.loop c::fs) env s ((kN m++os).reverseAux []) [] (range' 0 na.n) [] false=some (res x,H1 x,ob.reverseAux []):=by kernel_rfl):Rn prog (lT prog na fn res H1 0 c fs env s) os ob (some x):=lFin wV mixed m [] _ [] false h (Nat.le_refl _)
theorem lH(m:Nat)(rs:List (Option Nat×Nat×Nat))(keep ks live:List Nat){c':Code}{fs':List Fr}{E:(Nat->Value)->List AV}{S:xB}(hk:Ls prog o na fn c' E S res H1 nst fs')(h:∀j,B4 prog qU na.n 3000 (.run c) (.loop c::fs) env s ((kN m++os).reverseAux []) rs keep ks live j=some (c',fs',E j,S,ob.reverseAux []):=by intro j;kernel_rfl)(fe:∀j,AV.fineL vX (E j):=by intro j;refine J2 _ _ _ _ ?_;(repeat' first|exact Cd.d _|exact trivial|exact lz rfl|exact yN|refine And.intro ?_ ?_|refine yJ ?_ ?_|refine sD ?_ ?_|intro _))(fb:∀p∈S.H,p.2.fine vX:=by(repeat' first|exact Cd.d _|exact trivial|exact lz rfl|exact yN|refine And.intro ?_ ?_|refine yJ ?_ ?_|refine sD ?_ ?_|intro _)):Rn prog (lT prog na fn res H1 nst c fs env s) os ob o:=lHead wV mixed m rs keep ks live hk h fe fb
end
section
variable{f:FuncId}{fn:Func}{H0 H1:List yL}{args:List AV}{res:AV}{nst:Nat}{os:List lI}{ob:List Ob}
theorem tF(q:Qf f fn)(m:Nat)(keep:List Nat)(k:OL prog os ob)(h:Z4 prog qU H0.length fn 3000 (.run (tT fn)) [] (args++List.replicate (fn.ntmps-args.length) (.val undef)) (A3 H0) ((kN m++os).reverseAux []) [] keep [] false=some (res,H1,ob.reverseAux []):=by kernel_rfl):uS prog f H0 args res H1 0:=OL.toFin wV mixed q m [] keep [] false k h (Nat.le_refl _)
theorem tG(q:Qf f fn)(m:Nat)(rs:List (Option Nat×Nat×Nat))(keep ks:List Nat)(own:Bool)(k:OL prog os ob)(h:Z4 prog qU H0.length fn 3000 (.run (tT fn)) [] (args++List.replicate (fn.ntmps-args.length) (.val undef)) (A3 H0) ((kN m++os).reverseAux []) rs keep ks own=some (res,H1,ob.reverseAux []):=by kernel_rfl)(hn:nst<=ks.length:=by decide):uS prog f H0 args res H1 nst:=OL.toFin wV mixed q m rs keep ks own k h hn
theorem tH(q:Qf f fn)(m:Nat)(rs:List (Option Nat×Nat×Nat))(keep ks live:List Nat)(k:OL prog os ob){c:Code}{fs':List Fr}{E:(Nat->Value)->List AV}{S:xB}(hk:∀j,Dl prog H0.length c (E j) S (vF prog H0.length (nB prog H0.length fn res H1 nst) fs'))(h:∀j,H9 prog qU H0.length 3000 (.run (tT fn)) [] (args++List.replicate (fn.ntmps-args.length) (.val undef)) (A3 H0) ((kN m++os).reverseAux []) rs keep ks live j=some (c,fs',E j,S,ob.reverseAux []):=by intro j;kernel_rfl):uS prog f H0 args res H1 nst:=OL.toHead wV mixed q m rs keep ks live k hk h
variable{na:Nb}{Q:AX->List AV->xB->Prop}{c c':Code}{fs fs':List Fr}{env:List AV}{s S:xB}
theorem olH(m:Nat)(rs:List (Option Nat×Nat×Nat))(keep ks live:List Nat)(k:OL prog os ob){E:(Nat->Value)->List AV}(hk:∀j,Dl prog na c' (E j) S (vF prog na Q fs'))(h:∀j,H9 prog qU na.n 3000 (.run c) (.loop c::fs) env s ((kN m++os).reverseAux []) rs keep ks live j=some (c',fs',E j,S,ob.reverseAux []):=by intro j;kernel_rfl):Dl prog na c env s (vF prog na Q fs):=OL.lHead wV mixed m rs keep ks live k hk h
theorem olF(m:Nat)(keep:List Nat)(k:OL prog os ob)(h:Z4 prog qU na.n fn 3000 (.run c) (.loop c::fs) env s ((kN m++os).reverseAux []) [] keep [] false=some (res,H1,ob.reverseAux []):=by kernel_rfl):Dl prog na c env s (vF prog na (nB prog na fn res H1 0) fs):=OL.lFin wV mixed m [] keep [] false k h (Nat.le_refl _)
end
theorem nE:prog.info? 50=some Tryz.t50:=by kernel_rfl
theorem zXV{l m' m r:List zJ}{n k o n2:Nat}(hp:aO m' o n2=some m)(h:zNa k n l m=some r):Ob.ok prog (.inp (zJr prog 33 33 4 (zC zD l) n k (some 4) (aM (zC zD m') (o*4) n2 4) n2) (zC zD r)):=zQo wO Tryz.underlying33 nE rfl hp h
theorem J7:prog.info? 258=some Tryz.t258:=by kernel_rfl
theorem zEa{l m r:List zO}(h:yX 48 l m=some r)(hm:m.length=0):Ob.ok prog (.app 161 161 (zC zM l) (zC zM m) (zC zM r) l.length m.length r.length 4 true):=cA wR Tryz.underlying161 J7 rfl rfl rfl (by decide) rfl (by decide) h hm
theorem nF:prog.info? 48=some Tryz.t48:=by kernel_rfl
theorem nY{l m r:List Tm}(h:yX 40 l m=some r)(hm:m.length=0):Ob.ok prog (.app 22 22 (zC zA l) (zC zA m) (zC zA r) l.length m.length r.length 3 true):=cA uW Tryz.underlying22 nF rfl rfl rfl (by decide) rfl (by decide) h hm
theorem yBo{l m r:List zJ}(h:yX 48 l m=some r)(hm:m.length=0):Ob.ok prog (.app 33 33 (zC zD l) (zC zD m) (zC zD r) l.length m.length r.length 4 true):=cA wO Tryz.underlying33 nE rfl rfl rfl (by decide) rfl (by decide) h hm
theorem W9:prog.info? 3=some Tryz.t3:=by kernel_rfl
theorem zLd{l m r:List Int}(h:yX 8 l m=some r)(hm:m.length=0):Ob.ok prog (.app 58 58 (zC zZ l) (zC zZ m) (zC zZ r) l.length m.length r.length 1 true):=cA lU Tryz.underlying58 W9 rfl rfl rfl (by decide) rfl (by decide) h hm
theorem yBn{n:Nat}(h:n=0):Ob.ok prog (.same 22 22 n):=w8 Tryz.underlying22 nF h
theorem cC:prog.info? 307=some Tryz.t307:=by kernel_rfl
theorem zXW{n:Nat}(h:n=0):Ob.ok prog (.same 295 295 n):=w8 Tryz.underlying295 cC h
theorem yBm{n:Nat}(h:n=0):Ob.ok prog (.same 33 33 n):=w8 Tryz.underlying33 nE h
theorem yBl{n:Nat}(h:n=0):Ob.ok prog (.same 58 58 n):=w8 Tryz.underlying58 W9 h
theorem zLc:prog.info? 184=some Tryz.t184:=by kernel_rfl
theorem zXX{l m r:List zW}(h:yX 88 l m=some r)(hm:m.length≠0):Ob.ok prog (.mk (kL prog 180 180 (some 5) (zC yY l) l.length none (zC yY m) m.length) (zC yY r) r.length):=jW qL Tryz.underlying180 zLc rfl rfl rfl (by decide) rfl (by decide) h hm
theorem yBk{l m r:List Tm}(h:yX 40 l m=some r)(hm:m.length≠0):Ob.ok prog (.mk (kL prog 22 22 (some 3) (zC zA l) l.length none (zC zA m) m.length) (zC zA r) r.length):=jW uW Tryz.underlying22 nF rfl rfl rfl (by decide) rfl (by decide) h hm
theorem zQf{l m r:List zI}(h:yX 80 l m=some r)(hm:m.length≠0):Ob.ok prog (.mk (kL prog 295 295 (some 6) (zC zQ l) l.length none (zC zQ m) m.length) (zC zQ r) r.length):=jW vM Tryz.underlying295 cC rfl rfl rfl (by decide) rfl (by decide) h hm
theorem yBj{l m r:List zJ}(h:yX 48 l m=some r)(hm:m.length≠0):Ob.ok prog (.mk (kL prog 33 33 (some 4) (zC zD l) l.length none (zC zD m) m.length) (zC zD r) r.length):=jW wO Tryz.underlying33 nE rfl rfl rfl (by decide) rfl (by decide) h hm
theorem zXx{l m r:List Int}(h:yX 8 l m=some r)(hm:m.length≠0):Ob.ok prog (.mk (kL prog 58 58 (some 1) (zC zZ l) l.length none (zC zZ m) m.length) (zC zZ r) r.length):=jW lU Tryz.underlying58 W9 rfl rfl rfl (by decide) rfl (by decide) h hm
theorem zUt{l m' m r:List zI}{o n j:Nat}(hp:aO m' o n=some m)(h:yX 80 l m=some r)(hm:m.length≠0):Ob.ok prog (.mk (kL prog 295 295 (some 6) (zC zQ l) l.length (some (j,j,6)) (aM (zC zQ m') (o*6) n 6) n) (zC zQ r) r.length):=zQp vM Tryz.underlying295 cC rfl rfl rfl (by decide) rfl (by decide) hp h hm
theorem zUs{l l' m r:List zO}{n:Nat}(hf:I9 n l=some l')(h:yX 48 l' m=some r)(hm:m.length≠0):Ob.ok prog (.mk (kL prog 161 161 (some 4) (zC zM l) n none (zC zM m) m.length) (zC zM r) r.length):=zCN wR Tryz.underlying161 J7 rfl rfl rfl (by decide) rfl (by decide) hf h hm
theorem zXY{l l' m r:List Tm}{n:Nat}(hf:I9 n l=some l')(h:yX 40 l' m=some r)(hm:m.length≠0):Ob.ok prog (.mk (kL prog 22 22 (some 3) (zC zA l) n none (zC zA m) m.length) (zC zA r) r.length):=zCN uW Tryz.underlying22 nF rfl rfl rfl (by decide) rfl (by decide) hf h hm
theorem zEA{l m r:List zO}(h:yX 48 l m=some r)(hm:m.length≠0):Ob.ok prog (.app 161 161 (zC zM l) (zC zM m) (zC zM r) l.length m.length r.length 4 false):=rX wR Tryz.underlying161 J7 rfl rfl rfl (by decide) rfl (by decide) h hm
theorem zXw:prog.info? 9=some Tryz.t9:=by kernel_rfl
theorem zXZ{l m r:List ByteArray}(h:yX 16 l m=some r)(hm:m.length≠0):Ob.ok prog (.app 166 166 (zC P6 l) (zC P6 m) (zC P6 r) l.length m.length r.length 1 false):=rX zJi Tryz.underlying166 zXw rfl rfl rfl (by decide) rfl (by decide) h hm
theorem zLb:prog.info? 194=some Tryz.t194:=by kernel_rfl
theorem zYz{l m r:List qJ}(h:yX 56 l m=some r)(hm:m.length≠0):Ob.ok prog (.app 169 169 (zC A8 l) (zC A8 m) (zC A8 r) l.length m.length r.length 3 false):=rX zEj Tryz.underlying169 zLb rfl rfl rfl (by decide) rfl (by decide) h hm
theorem vQ{l m r:List Tm}(h:yX 40 l m=some r)(hm:m.length≠0):Ob.ok prog (.app 22 22 (zC zA l) (zC zA m) (zC zA r) l.length m.length r.length 3 false):=rX uW Tryz.underlying22 nF rfl rfl rfl (by decide) rfl (by decide) h hm
theorem zQe:prog.info? 63=some Tryz.t63:=by kernel_rfl
theorem yBi{l m r:List yI}(h:yX 192 l m=some r)(hm:m.length≠0):Ob.ok prog (.app 26 26 (zC xA l) (zC xA m) (zC xA r) l.length m.length r.length 15 false):=rX zEk Tryz.underlying26 zQe rfl rfl rfl (by decide) rfl (by decide) h hm
theorem zQd:prog.info? 56=some Tryz.t56:=by kernel_rfl
theorem zXv{l m r:List (List yP)}(h:yX 24 l m=some r)(hm:m.length≠0):Ob.ok prog (.app 28 28 (zC (rD wA) l) (zC (rD wA) m) (zC (rD wA) r) l.length m.length r.length 1 false):=rX (zQj nX) Tryz.underlying28 zQd rfl rfl rfl (by decide) rfl (by decide) h hm
theorem zGg{l m r:List zJ}(h:yX 48 l m=some r)(hm:m.length≠0):Ob.ok prog (.app 33 33 (zC zD l) (zC zD m) (zC zD r) l.length m.length r.length 4 false):=rX wO Tryz.underlying33 nE rfl rfl rfl (by decide) rfl (by decide) h hm
theorem zUr:prog.info? 163=some Tryz.t163:=by kernel_rfl
theorem yBh{l m r:List yO}(h:yX 184 l m=some r)(hm:m.length≠0):Ob.ok prog (.app 34 34 (zC wE l) (zC wE m) (zC wE r) l.length m.length r.length 11 false):=rX nN Tryz.underlying34 zUr rfl rfl rfl (by decide) rfl (by decide) h hm
theorem zQc:prog.info? 51=some Tryz.t51:=by kernel_rfl
theorem yBg{l m r:List uX}(h:yX 48 l m=some r)(hm:m.length≠0):Ob.ok prog (.app 46 46 (zC vJ l) (zC vJ m) (zC vJ r) l.length m.length r.length 4 false):=rX eK Tryz.underlying46 zQc rfl rfl rfl (by decide) rfl (by decide) h hm
theorem zQb:prog.info? 72=some Tryz.t72:=by kernel_rfl
theorem zXu{l m r:List yP}(h:yX 88 l m=some r)(hm:m.length≠0):Ob.ok prog (.app 56 56 (zC wA l) (zC wA m) (zC wA r) l.length m.length r.length 7 false):=rX nX Tryz.underlying56 zQb rfl rfl rfl (by decide) rfl (by decide) h hm
theorem qO{l m r:List Int}(h:yX 8 l m=some r)(hm:m.length≠0):Ob.ok prog (.app 58 58 (zC zZ l) (zC zZ m) (zC zZ r) l.length m.length r.length 1 false):=rX lU Tryz.underlying58 W9 rfl rfl rfl (by decide) rfl (by decide) h hm
theorem yBf{m r:List Tm}(h:yX 40 ([]:List Tm) m=some r)(hm:m.length≠0):Ob.ok prog (.mk (kL prog 22 22 (none) [] 0 none (zC zA m) m.length) (zC zA r) r.length):=zAw uW Tryz.underlying22 nF rfl rfl rfl (by decide) rfl (by decide) h hm
theorem yBe{m r:List zJ}(h:yX 48 ([]:List zJ) m=some r)(hm:m.length≠0):Ob.ok prog (.mk (kL prog 33 33 (none) [] 0 none (zC zD m) m.length) (zC zD r) r.length):=zAw wO Tryz.underlying33 nE rfl rfl rfl (by decide) rfl (by decide) h hm
theorem yBd{m r:List Int}(h:yX 8 ([]:List Int) m=some r)(hm:m.length≠0):Ob.ok prog (.mk (kL prog 58 58 (none) [] 0 none (zC zZ m) m.length) (zC zZ r) r.length):=zAw lU Tryz.underlying58 W9 rfl rfl rfl (by decide) rfl (by decide) h hm
theorem yBc{l:List zJ}{o:Nat}{u:Unit}(h:gle l.length o=some u):Ob.ok prog (.clr 33 (zC zD l).length (o*4) 4):=yDI wO Tryz.underlying33 nE rfl rfl (by rfl) h
theorem yBb:prog.info? 4=some Tryz.t4:=by kernel_rfl
theorem yBa{l:List Bool}{i:Int}{o:Own}{x:Bool}(h:zS l i=some x):xE prog 121 (.sl (zC boC l) l.length o) (ai i)=some (.ip (boC x++zC boC (l.drop (i.toNat+1)))):=by have:=mP zJd (k:=.i64) Tryz.underlying121 yBb rfl h (o:=o);exact this
theorem zEB:prog.info? 171=some Tryz.t171:=by kernel_rfl
theorem yBA{l:List tZ}{i:Int}{o:Own}{x:tZ}(h:zS l i=some x):xE prog 131 (.sl (zC pX l) l.length o) (ai i)=some (.ip (pX x++zC pX (l.drop (i.toNat+1)))):=by have:=mP zEi (k:=.i64) Tryz.underlying131 zEB rfl h (o:=o);exact this
theorem yBB{l:List zO}{i:Int}{o:Own}{x:zO}(h:zS l i=some x):xE prog 161 (.sl (zC zM l) l.length o) (ai i)=some (.ip (zM x++zC zM (l.drop (i.toNat+1)))):=by have:=mP wR (k:=.i64) Tryz.underlying161 J7 rfl h (o:=o);exact this
theorem yBC{l:List ByteArray}{i:Int}{o:Own}{x:ByteArray}(h:zS l i=some x):xE prog 166 (.sl (zC P6 l) l.length o) (ai i)=some (.ip (P6 x++zC P6 (l.drop (i.toNat+1)))):=by have:=mP zJi (k:=.i64) Tryz.underlying166 zXw rfl h (o:=o);exact this
theorem yBD{l:List qJ}{i:Int}{o:Own}{x:qJ}(h:zS l i=some x):xE prog 169 (.sl (zC A8 l) l.length o) (ai i)=some (.ip (A8 x++zC A8 (l.drop (i.toNat+1)))):=by have:=mP zEj (k:=.i64) Tryz.underlying169 zLb rfl h (o:=o);exact this
theorem zXt{l:List zW}{i:Int}{o:Own}{x:zW}(h:zS l i=some x):xE prog 180 (.sl (zC yY l) l.length o) (ai i)=some (.ip (yY x++zC yY (l.drop (i.toNat+1)))):=by have:=mP qL (k:=.i64) Tryz.underlying180 zLc rfl h (o:=o);exact this
theorem xP{l:List Tm}{i:Int}{o:Own}{x:Tm}(h:zS l i=some x):xE prog 22 (.sl (zC zA l) l.length o) (ai i)=some (.ip (P5 x++zC zA (l.drop (i.toNat+1)))):=by have:=mP uW (k:=.i64) Tryz.underlying22 nF rfl h (o:=o);rw[xY]at this;exact this
theorem zYy:prog.info? 70=some Tryz.t70:=by kernel_rfl
theorem zQa{l:List (List zB)}{i:Int}{o:Own}{x:List zB}(h:zS l i=some x):xE prog 23 (.sl (zC (rD zK) l) l.length o) (ai i)=some (.ip ((rD zK) x++zC (rD zK) (l.drop (i.toNat+1)))):=by have:=mP (zQj tQ) (k:=.i64) Tryz.underlying23 zYy rfl h (o:=o);exact this
theorem wM{l:List yI}{i:Int}{o:Own}{x:yI}(h:zS l i=some x):xE prog 26 (.sl (zC xA l) l.length o) (ai i)=some (.ip (xA x++zC xA (l.drop (i.toNat+1)))):=by have:=mP zEk (k:=.i64) Tryz.underlying26 zQe rfl h (o:=o);exact this
theorem yDK{l:List (List yP)}{i:Int}{o:Own}{x:List yP}(h:zS l i=some x):xE prog 28 (.sl (zC (rD wA) l) l.length o) (ai i)=some (.ip ((rD wA) x++zC (rD wA) (l.drop (i.toNat+1)))):=by have:=mP (zQj nX) (k:=.i64) Tryz.underlying28 zQd rfl h (o:=o);exact this
theorem Q3{l:List zJ}{i:Int}{o:Own}{x:zJ}(h:zS l i=some x):xE prog 33 (.sl (zC zD l) l.length o) (ai i)=some (.ip (zD x++zC zD (l.drop (i.toNat+1)))):=by have:=mP wO (k:=.i64) Tryz.underlying33 nE rfl h (o:=o);exact this
theorem zYx:prog.info? 36=some Tryz.t36:=by kernel_rfl
theorem B5{l:List zP}{i:Int}{o:Own}{x:zP}(h:zS l i=some x):xE prog 43 (.sl (zC wD l) l.length o) (ai i)=some (.ip (sW x++zC wD (l.drop (i.toNat+1)))):=by have:=mP lY (k:=.i64) Tryz.underlying43 zYx rfl h (o:=o);rw[uM]at this;exact this
theorem zJb{l:List uX}{i:Int}{o:Own}{x:uX}(h:zS l i=some x):xE prog 46 (.sl (zC vJ l) l.length o) (ai i)=some (.ip (vJ x++zC vJ (l.drop (i.toNat+1)))):=by have:=mP eK (k:=.i64) Tryz.underlying46 zQc rfl h (o:=o);exact this
theorem yDL{l:List yP}{i:Int}{o:Own}{x:yP}(h:zS l i=some x):xE prog 56 (.sl (zC wA l) l.length o) (ai i)=some (.ip (u0 x++zC wA (l.drop (i.toNat+1)))):=by have:=mP nX (k:=.i64) Tryz.underlying56 zQb rfl h (o:=o);rw[jZ]at this;exact this
theorem oV{l:List Int}{i:Int}{o:Own}{x:Int}(h:zS l i=some x):xE prog 58 (.sl (zC zZ l) l.length o) (ai i)=some (.ip (zZ x++zC zZ (l.drop (i.toNat+1)))):=by have:=mP lU (k:=.i64) Tryz.underlying58 W9 rfl h (o:=o);exact this
theorem zYw:prog.info? 76=some Tryz.t76:=by kernel_rfl
theorem zCp{l:List zB}{i:Int}{o:Own}{x:zB}(h:zS l i=some x):xE prog 70 (.sl (zC zK l) l.length o) (ai i)=some (.ip (kW x++zC zK (l.drop (i.toNat+1)))):=by have:=mP tQ (k:=.i64) Tryz.underlying70 zYw rfl h (o:=o);rw[uL]at this;exact this
theorem zGf{l:List Int}{i x:Int}(h:zS l i=some x)(hl:l.length=9):iP prog 262 (.agg (zC zZ l)) (ai i)=some (ai x):=zQv (k:=.i64) Tryz.underlying262 (q:=(false,1)) (by kernel_rfl) rfl hl h
theorem zYv{b n k c z:Nat}{i:Int}(h:oT n i=some k):xE prog 131 (.ms b 0 n c z) (ai i)=some (.mp b (k*3)):=zEc Tryz.underlying131 zEB rfl h
theorem zEC{b n k c z:Nat}{i:Int}(h:oT n i=some k):xE prog 161 (.ms b 0 n c z) (ai i)=some (.mp b (k*4)):=zEc Tryz.underlying161 J7 rfl h
theorem zCR{b n k c z:Nat}{i:Int}(h:oT n i=some k):xE prog 22 (.ms b 0 n c z) (ai i)=some (.mp b (k*3)):=zEc Tryz.underlying22 nF rfl h
theorem zLa{b n k c z:Nat}{i:Int}(h:oT n i=some k):xE prog 33 (.ms b 0 n c z) (ai i)=some (.mp b (k*4)):=zEc Tryz.underlying33 nE rfl h
theorem zJa{b o n k c z:Nat}{i:Int}(h:oT n i=some k):xE prog 295 (.ms b (o*6) n c z) (ai i)=some (.mp b ((o+k)*6)):=zUx Tryz.underlying295 cC rfl h
theorem zQA{s:ByteArray}{i x:Int}(h:b9 s i=some x):iP prog 9 (at' s) (ai i)=some (.val (.int .u8 x)):=zQs Tryz.underlying9 h
theorem zXs(m:List (ByteArray×Int))(k:ByteArray):Ob.ok prog (.lk 187 (zEd m) (at' k) false (ai (zGt m k))):=yBw Tryz.underlying187 Tryz.underlying9 W9 rfl m k
theorem zQB(m:List (Int×Int))(k:Int):Ob.ok prog (.lk 148 (B2 m) (ai k) true (.tup [ai (zJg m k),ab (Q0 m k)])):=zXQ Tryz.underlying148 Tryz.underlying3 W9 rfl m k
theorem zQC(m:List (Int×Int)):Ob.ok prog (.ln 148 (B2 m) (ai (m.length:Int))):=zXS Tryz.underlying148 m
theorem zQD{n:Int}{l:List tZ}(h:gmk 72 (default:tZ) n=some l):Ob.ok prog (.mk (iW prog 131 (ai n) (ai n)) (zC pX l) l.length):=yBs Tryz.underlying131 zEB rfl rfl rfl (by decide) rfl (by decide) (by rfl) h
theorem yBE(m:List (ByteArray×Int))(k:ByteArray)(v:Int):Ob.ok prog (.mu 187 (zEd m) (at' k) (ai v) (zEd (b8 m k v))):=yBv Tryz.underlying187 Tryz.underlying9 m k v
theorem zYu(m:List (Int×Int))(k v:Int):Ob.ok prog (.mu 148 (B2 m) (ai k) (ai v) (B2 (aE m k v))):=zXR Tryz.underlying148 Tryz.underlying3 m k v
theorem qV{l r:List Tm}{a:Int}(h:mU l a l.length=some r):wY prog 22 (.sl (zC zA l) l.length .no) (some (ai a)) none none=some (.sl (zC zA r) r.length .no):=zEg uW Tryz.underlying22 nF rfl h
theorem zCS{l r:List Tm}{a:Int}{o:Own}(h:mU l a l.length=some r):∃a0,wY prog 22 (.sl (zC zA l) l.length o) (some (ai a)) none none=some a0/\a0.frz=.sl (zC zA r) r.length .no:=zCr uW Tryz.underlying22 nF rfl h
theorem yBF{b o n c:Nat}{x y:Int}{r:Nat×Nat}(h:jG c x y=some r):wY prog 33 (.ms b (o*4) n c 4) (some (ai x)) (some (ai y)) none=some (.ms b ((o+r.1)*4) r.2 (c-r.1) 4):=zXO Tryz.underlying33 nE rfl (by decide) h
theorem zUq{b o n c:Nat}{x y:Int}{r:Nat×Nat}(h:jG n x y=some r):wY prog 33 (.ms b (o*4) n c 4) (some (ai x)) (some (ai y)) (some (ai (n:Int)))=some (.ms b ((o+r.1)*4) r.2 (n-r.1) 4):=zUw Tryz.underlying33 nE rfl (by decide) h
theorem zNG(b off n c:Nat):wY prog 295 (.ms b off n c 6) none (some (ai (n:Int))) (some (ai (n:Int)))=some (.ms b off n n 6):=zNc Tryz.underlying295 cC rfl (by decide) b off n c
theorem zJA{b o n c:Nat}{x:Int}{r:Nat×Nat}(h:jG n x n=some r):wY prog 295 (.ms b (o*6) n c 6) (some (ai x)) none none=some (.ms b ((o+r.1)*6) r.2 (c-r.1) 6):=zAy Tryz.underlying295 cC rfl (by decide) h
theorem zNH{b o n c:Nat}{x:Int}{r:Nat×Nat}(h:jG n x n=some r):wY prog 33 (.ms b (o*4) n c 4) (some (ai x)) none none=some (.ms b ((o+r.1)*4) r.2 (c-r.1) 4):=zAy Tryz.underlying33 nE rfl (by decide) h
theorem zUp{b off n c:Nat}{y:Int}{r:Nat×Nat}(h:jG c 0 y=some r):wY prog 33 (.ms b off n c 4) none (some (ai y)) none=some (.ms b off r.2 c 4):=zQq Tryz.underlying33 nE rfl (by decide) h
theorem lZ{l r:List Tm}{b:Int}(h:mU l 0 b=some r):wY prog 22 (.sl (zC zA l) l.length .no) none (some (ai b)) none=some (.sl (zC zA r) r.length .no):=zJh uW Tryz.underlying22 nF rfl h
theorem zQE{l r:List Tm}{b:Int}{o:Own}(h:mU l 0 b=some r):wY prog 22 (.sl (zC zA l) l.length o) none (some (ai b)) (some (ai b))=some (.sl (zC zA r) r.length .full):=zGn uW Tryz.underlying22 nF rfl h
theorem zLA{l r:List Tm}{b:Int}{o:Own}(h:mU l 0 b=some r):∃a0,wY prog 22 (.sl (zC zA l) l.length o) none (some (ai b)) none=some a0/\a0.frz=.sl (zC zA r) r.length .no:=zGw uW Tryz.underlying22 nF rfl h
def ptG:Nat->Nat->Func->Code|0,_,f=>tT f|k+1,n,f=>if n=0 then tT f else if n%4=1 then inn (ptG k (n/4) f)else if n%4=2 then mJ (ptG k (n/4) f)else uR (ptG k (n/4) f)
abbrev pt:=ptG 99
abbrev Oz:=OL prog
abbrev dL:=Dl prog
abbrev fQ:=vF prog
abbrev nQ:=nB prog
abbrev qB(q0:List yI)(m:Nat)(q3 q4:List Int):yL:=.cells [zN xA q0 .no,.mp m 0,zN zZ q3 .no,zN zZ q4 .no]
abbrev qR(q1:List yI)(q2:List tZ):yL:=.cells [zN xA q1 .no,zN pX q2 .no]
theorem oDm{os:List lI}{ob:List Ob}(q0 q1:List yI)(q2:List tZ)(q3 q4:List Int)(k:Oz os ob):Oz os (.data (zC pX q2)::.data (zC xA q1)::.data (zC zZ q4)::.data (zC zZ q3)::.data (zC xA q0)::ob):=oD (dC q2)<|oD (dE q1)<|oD (dI q4)<|oD (dI q3)<|oD (dE q0) k
theorem Q4{os:List lI}{ob:List Ob}(M:xK)(k:Oz os ob):Oz os (.data (zC pX M.parts)::.data (zC xA M.rl)::.data (zC zZ M.own)::.data (zC zZ M.args)::.data (zC xA M.l)::ob):=oDm M.l M.rl M.parts M.args M.own k
theorem fMa{n m:Nat}{q0 q1:List yI}{q2:List tZ}{q3 q4:List Int}{l:List yL}(h:m<n)(k:∀X∈l,X.arg (λi=>i<n)):∀X∈qB q0 m q3 q4::qR q1 q2::l,X.arg (λi=>i<n):=yJ ⟨⟨tv,dE _⟩,h,⟨tv,dI _⟩,⟨tv,dI _⟩,tv⟩ (yJ ⟨⟨tv,dE _⟩,⟨tv,dC _⟩,tv⟩ k)
theorem fMf{n m:Nat}{q0 q1:List yI}{q2:List tZ}{q3 q4:List Int}{l:List yL}(h:m<n)(k:∀X∈l,X.fine (λi=>i<n)):∀X∈qB q0 m q3 q4::qR q1 q2::l,X.fine (λi=>i<n):=yJ ⟨dE _,h,dI _,dI _,tv⟩ (yJ ⟨dE _,dC _,tv⟩ k)
abbrev yU:=List Tm
abbrev yD:=List Int
abbrev xU:=List zJ
abbrev xH:=List yI
abbrev sE:=List zO
abbrev sA:=List tZ
abbrev nO:=List zI
abbrev LR2:=List uX
end Go.Proofs.YtohkcbcddindpaaGreat
namespace Go.Ab
open Go
def zF{α:Type}(f:Nat->Option α)(r:α):Prop:=∃n,∀q,n<=q->f q=some r
section
variable{α β:Type}{f:Nat->Option α}{r a:α}{b:β}
theorem zF.mk(h:∀q,f q=some r):zF f r:=⟨0,λq _=>h q⟩
theorem zF.ret{r:α}:zF (λ_=>some r) r:=⟨0,λ_ _=>rfl⟩
theorem zF.succ(h:zF (λq=>f (q+1)) r):zF f r:=by obtain⟨n,h⟩:=h;refine⟨n+1,λq hq=>?_⟩;obtain⟨k,rfl⟩:∃k,q=k+1:=⟨q-1,by omega⟩;exact h k (by omega)
theorem zF.bind{k:Nat->α->Option β}(h:zF f a)(g:zF (λq=>k q a) b):zF (λq=>f q>>=k q) b:=by obtain⟨n,h⟩:=h;obtain⟨m,g⟩:=g;refine⟨max n m,λq hq=>?_⟩;dsimp only;rw[h q (by omega)];exact g q (by omega)
theorem zF.pure{x:Option α}{k:Nat->α->Option β}(h:x=some a)(g:zF (λq=>k q a) b):zF (λq=>x>>=k q) b:=by subst h;exact g
theorem zF.ifT{c:Bool}{g:Nat->Option α}(h:c=true)(k:zF f r):zF (λq=>if c=true then f q else g q) r:=by simpa[h]using k
theorem zF.ifF{c:Bool}{g:Nat->Option α}(h:c=false)(k:zF g r):zF (λq=>if c=true then f q else g q) r:=by simpa[h]using k
theorem zF.iff{c:Bool}{g:Nat->Option α}(h:c=true->zF f r)(k:c=false->zF g r):zF (λq=>if c=true then f q else g q) r:=by
 cases c;·simpa using k rfl
 ·simpa using h rfl
theorem zF.det(h:zF f r)(k:zF f a):r=a:=by obtain⟨n,h⟩:=h;obtain⟨m,k⟩:=k;have:=h (max n m) (by omega);rw[k _ (by omega)]at this;exact(Option.some.inj this).symm
theorem zF.at(h:zF f r):∃q,f q=some r:=by obtain⟨n,h⟩:=h;exact⟨n,h n (Nat.le_refl _)⟩
theorem zF.eq{s:α}(h:zF f r)(e:r=s):zF f s:=e▸h
end
def zH{α:Type}(f:Nat->Option α)(P:α->Prop):Prop:=∃r,zF f r/\P r
section
variable{α β:Type}{f:Nat->Option α}{P:α->Prop}{Q:β->Prop}
theorem zF.tot{r:α}(h:zF f r)(k:P r):zH f P:=⟨r,h,k⟩
theorem zH.ret{r:α}(k:P r):zH (λ_=>some r) P:=⟨r,zF.ret,k⟩
theorem zH.succ(h:zH (λq=>f (q+1)) P):zH f P:=by obtain⟨r,h,k⟩:=h;exact⟨r,h.succ,k⟩
theorem zH.bind{k:Nat->α->Option β}(h:zH f P)(g:∀a,P a->zH (λq=>k q a) Q):zH (λq=>f q>>=k q) Q:=by obtain⟨a,h,p⟩:=h;obtain⟨b,h2,k⟩:=g a p;exact⟨b,h.bind h2,k⟩
theorem zH.pure{x:Option α}{a:α}{k:Nat->α->Option β}(h:x=some a)(g:zH (λq=>k q a) Q):zH (λq=>x>>=k q) Q:=by subst h;exact g
theorem zH.ite{c:Bool}{g:Nat->Option α}(h:c=true->zH f P)(k:c=false->zH g P):zH (λq=>if c=true then f q else g q) P:=by
 cases c;·simpa using k rfl
 ·simpa using h rfl
theorem zH.mono{P':α->Prop}(h:zH f P)(k:∀r,P r->P' r):zH f P':=by obtain⟨r,h,p⟩:=h;exact⟨r,h,k r p⟩
end
theorem yS{x:Int}(h0:-9223372036854775808<=x)(h1:x<=9223372036854775807):xC x=x:=by show IntKind.i64.wrap x=x;exact IntWalk.i64_in x ⟨h0,h1⟩
theorem zU(v:Nat)(h:v<9223372036854775807):xC ((v:Int)+1)=((v+1:Nat):Int):=by rw[yS (by omega) (by omega)];simp
section
variable{α:Type}{l:List α}{v:Nat}{x:α}{r:List α}
theorem yC(h:l.drop v=x::r):v<l.length:=by
 rcases Nat.lt_or_ge v l.length with h1|h1;·exact h1
 ·rw[List.drop_eq_nil_of_le h1]at h;cases h
theorem zX(h:l.drop v=x::r):decide ((v:Int)<(l.length:Int))=true:=by have:=yC h;simp;exact this
theorem zY(h:l.drop v=[]):decide ((v:Int)<(l.length:Int))=false:=by have:l.length<=v:=List.drop_eq_nil_iff.1 h;simp;exact this
theorem zV(h:l.drop v=x::r):zS l (v:Int)=some x:=by
 have h1:=yC h;have:l[v]?=some x:=by have:=congrArg (λz=>z[0]?) h;simpa using this
 unfold zS;rw[if_pos (by omega)];simpa using this
theorem zR(h:l.drop v=x::r):l.drop (v+1)=r:=by have:=congrArg List.tail h;simpa using this
end
theorem yF{α:Type}{B:Nat}{l m:List α}(h:(l.length+m.length)*B<=140737488355328):yX B l m=some (l++m):=by unfold yX;rw[if_pos h]
mutual def Tm.nodes:Tm->Nat|.mk _ _ l=>1+yW l def yW:List Tm->Nat|[]=>0|t::l=>t.nodes+yW l end
mutual def Tm.high:Tm->Nat|.mk _ _ l=>1+uH l def uH:List Tm->Nat|[]=>0|t::l=>max t.high (uH l)end
mutual def Tm.Ok:Tm->Prop|.mk _ _ l=>l.length<9223372036854775808/\mW l def mW:List Tm->Prop|[]=>True|t::l=>t.Ok/\mW l end
mutual def szT:Tm->Int->Int|.mk _ _ l,h=>szL l (h+1)def szL:List Tm->Int->Int|[],h=>h|t::l,h=>if h>8192 then h else szL l (szT t h)end
mutual theorem zGe:∀(t:Tm)(h:Int),0<=h->h<=8192->h+1<=szT t h/\szT t h<=8193|.mk _ _ l,h,h0,h1=>by rw[szT];exact zXr l (h+1) (by omega) (by omega)theorem zXr:∀(l:List Tm)(h:Int),0<=h->h<=8193->h<=szL l h/\szL l h<=8193
 |[],h,h0,h1=>by rw[szL];omega|t::l,h,h0,h1=>by
  rw[szL];split;·omega
  ·have:=zGe t h h0 (by omega);have:=zXr l (szT t h) (by omega) (by omega);omega end
theorem vR(t:Tm):1<=t.nodes:=by cases t;rw[Tm.nodes];omega
mutual theorem zQF:∀(t:Tm)(h:Int),0<=h->h<=8192->(h+t.nodes<=8192->szT t h=h+t.nodes)/\(8192<h+t.nodes->szT t h=8193)
 |.mk _ _ l,h,h0,h1=>by
  rw[szT,Tm.nodes];have:=zQG l (h+1) (by omega) (by omega);constructor;·intro h2;rw[this.1 (by omega)];omega
  ·intro h2;exact this.2 (by omega)theorem zQG:∀(l:List Tm)(h:Int),0<=h->h<=8193->(h+yW l<=8192->szL l h=h+yW l)/\(8192<h+yW l->szL l h=8193)
 |[],h,h0,h1=>by rw[szL,yW];omega|t::l,h,h0,h1=>by
  rw[szL,yW];have hp:=vR t;split;·omega
  ·have ht:=zQF t h h0 (by omega);have hb:=zGe t h h0 (by omega);have hl:=zQG l (szT t h) (by omega) (by omega);constructor
   ·intro h2;have e:=ht.1 (by omega);rw[e]at hl⊢;rw[hl.1 (by omega)];omega
   ·intro h2;by_cases h3:h+t.nodes<=8192
    ·have e:=ht.1 h3;rw[e]at hl⊢;exact hl.2 (by omega)
    ·exact hl.2 (by rw[ht.2 (by omega)];omega)end
mutual def dpT:Tm->Int->Int|.mk _ _ l,a=>if a>128 then a else dpL l a a def dpL:List Tm->Int->Int->Int|[],_,m=>m|t::l,a,m=>dpL l a (kM m (dpT t (a+1)))end
mutual theorem zXq:∀(t:Tm)(a:Int),0<=a->a<=129->a<=dpT t a/\dpT t a<=129
 |.mk _ _ l,a,h0,h1=>by
  rw[dpT];split;·omega
  ·exact zXp l a a h0 (by omega) (by omega) (by omega)theorem zXp:∀(l:List Tm)(a m:Int),0<=a->a<=128->a<=m->m<=129->m<=dpL l a m/\dpL l a m<=129|[],a,m,h0,h1,h2,h3=>by rw[dpL];omega|t::l,a,m,h0,h1,h2,h3=>by rw[dpL];have:=zXq t (a+1) (by omega) (by omega);have:=zXp l a (kM m (dpT t (a+1))) h0 h1 (by unfold kM;split<;>omega) (by unfold kM;split<;>omega);unfold kM at this⊢;split at this<;>split<;>omega end
mutual theorem zQH:∀(t:Tm)(a:Int),0<=a->a<=129->(a+t.high<=129->dpT t a=a+t.high-1)/\(129<a+t.high->dpT t a=129)
 |.mk _ _ l,a,h0,h1=>by
  rw[dpT,Tm.high];split;·omega
  ·have:=zQI l a a h0 (by omega) (by omega) (by omega);constructor;·intro h2;rw[this.1 (by omega) (by omega)];omega
   ·intro h2;exact this.2 (.inr (by omega))theorem zQI:∀(l:List Tm)(a m:Int),0<=a->a<=128->a<=m->m<=129->(m<=128->a+uH l<=128->dpL l a m=max m (a+uH l))/\((m=129\/128<a+uH l)->dpL l a m=129)
 |[],a,m,h0,h1,h2,h3=>by rw[dpL,uH];omega|t::l,a,m,h0,h1,h2,h3=>by
  rw[dpL,uH];have ht:=zQH t (a+1) (by omega) (by omega);have hb:=zXq t (a+1) (by omega) (by omega);have hm:a<=kM m (dpT t (a+1))/\kM m (dpT t (a+1))<=129:=by unfold kM;split<;>omega
  have hl:=zQI l a (kM m (dpT t (a+1))) h0 h1 hm.1 hm.2;have hh:1<=t.high:=by cases t;rw[Tm.high];omega
  constructor
  ·intro h4 h5;have e:=ht.1 (by omega);rw[e]at hl⊢;have hi:kM m (a+1+t.high-1)=max m (a+t.high):=by unfold kM;split<;>omega
   rw[hi]at hl⊢;rw[hl.1 (by omega) (by omega)];omega
  ·intro h4;refine hl.2 ?_;rcases h4 with h4|h4;·exact .inl (by unfold kM;split<;>omega)
   ·by_cases h5:128<a+uH l;·exact .inr h5
    ·refine .inl ?_;have e:dpT t (a+1)=129:=by
      by_cases h6:a+1+t.high<=129;·omega
      ·exact ht.2 (by omega)
     rw[e];unfold kM;split<;>omega end
def rP(t:Tm):Bool:=decide (1<=t.k)&&decide (t.k<=8)&&decide (0<=t.n)&&(if t.k=3\/t.k=4\/t.k=5 then decide (t.sub.length=2)&&decide (t.n<=0)else if t.k=7 then decide (t.sub.length=1)&&decide (t.n<=1048576)&&(t.sub.head?.any λx=>x.k==2)else decide (t.sub.length=0)&&(if t.k=2 then decide (t.n<=7)else decide (t.n<=1048576)))
theorem tR{t:Tm}(h:rP t=true):1<=t.k/\t.k<=8/\0<=t.n/\t.n<=1048576/\t.sub.length<=2/\(t.k=3\/t.k=4\/t.k=5->t.sub.length=2/\t.n<=0)/\(t.k=7->∃x,t.sub=[x]/\x.k=2)/\(t.k=1\/t.k=2\/t.k=6\/t.k=8->t.sub=[])/\(t.k=2->t.n<=7):=by
 unfold rP at h;revert h;generalize t.k=k;generalize t.n=n;generalize t.sub=l;intro h;simp only[Bool.and_eq_true,decide_eq_true_eq]at h;obtain⟨⟨⟨h1,h2⟩,h3⟩,h4⟩:=h;split at h4;·simp only[Bool.and_eq_true,decide_eq_true_eq]at h4;refine⟨h1,h2,h3,by omega,by omega,λ_=>h4,by omega,by omega,by omega⟩
 ·split at h4
  ·simp only[Bool.and_eq_true,decide_eq_true_eq]at h4;obtain⟨⟨h5,h6⟩,h7⟩:=h4;obtain⟨x,rfl⟩:∃x,l=[x]:=by rcases l with _|⟨x,_|⟨y,l⟩⟩<;>simp at h5;exact⟨x,rfl⟩
   refine⟨h1,h2,h3,h6,by simp,by omega,λ_=>⟨x,rfl,by simpa using h7⟩,by omega,by omega⟩
  ·simp only[Bool.and_eq_true,decide_eq_true_eq]at h4;have hl:l=[]:=List.length_eq_zero_iff.1 h4.1;refine⟨h1,h2,h3,?_,by omega,by omega,by omega,λ_=>hl,λh8=>?_⟩
   ·have:=h4.2;split at this<;>(simp at this;omega)
   ·have:=h4.2;rw[if_pos h8]at this;simpa using this
mutual def xQ:Tm->Bool|.mk k n l=>rP (.mk k n l)&&vS l def vS:List Tm->Bool|[]=>true|t::l=>xQ t&&vS l end
def zG(t:Tm):Bool:=decide (t.nodes<=8192)&&decide (t.high<=128)&&xQ t
def B6(k:Int)(i:Nat):Int:=if i=1/\(k=3\/k=4)then 1 else 0
mutual def kO:Tm->Int->Int|.mk k n l,b=>if k=1 then max 0 (n+1-b)else fL l k 0 b def fL:List Tm->Int->Nat->Int->Int|[],_,_,_=>0|t::l,k,i,b=>max (kO t (b+B6 k i)) (fL l k (i+1) b)end
mutual def sF:Tm->Int->Int->List Int|.mk k n l,a,b=>(if k=a\/k=b then[n]else[])++gD l a b def gD:List Tm->Int->Int->List Int|[],_,_=>[]|t::l,a,b=>sF t a b++gD l a b end
open Go.RowKit
def X0(W:World):Gh:=⟨λ_=>none,λ_=>none,λb o=>∃v,W.cell? ⟨b,o,none⟩=some v,W,λb=>b<W.heap.size,λ_=>False⟩
theorem zYt(W:World):yM (X0 W) (xD (uI 0) (A3 [])) W:=by
 refine⟨λ_=>⟨λ_=>.inr rfl,λ_=>⟨rfl,id⟩,λe=>e.elim⟩,⟨0,λ_ _=>rfl⟩,λ_ _ _ h=>?_,λ_ _ _ h=>?_,λ_ _ h=>⟨h,λi e=>by cases e⟩,λ_ _=>rfl,λ_ h=>?_,λ_ _ _ _ _ _ _ h=>?_,vY.refl _ _,λ_ h=>h⟩;·cases h
 ·cases h
 ·cases h
 ·cases h
theorem zUo(W:World):zCu (0:Nat) (X0 W):=⟨λ_ _=>⟨rfl,id⟩,λ_=>rfl,λ_ _⟨_,h⟩=>World.block_lt_of_cell? W _ h,trivial⟩
theorem zAp{W:World}:∀(xs:List AV)(cs:List Value)(b off:Nat),VL (X0 W) W xs cs->(∀i,i<xs.length->W.cell? ⟨b,off+i,none⟩=cs[i]?)->VC (X0 W) W xs b off|[],_,_,_,_,_=>by simp only[VC]|a::xs,c::cs,b,off,hv,h=>by simp only[VL]at hv;have h0:=h 0 (by simp);simp only[Nat.add_zero,List.getElem?_cons_zero]at h0;simp only[VC];refine⟨⟨c,h0⟩,⟨c,h0,hv.1⟩,zAp xs cs b (off+1) hv.2 λi hi=>?_⟩;have:=h (i+1) (by simp;omega);simpa[Nat.add_assoc,Nat.add_comm 1 i]using this|_::_,[],_,_,hv,_=>by simp only[VL]at hv
theorem zGd{W:World}{b:Nat}:∀(n off:Nat),(∀i,i<n->∃(cs:List Value)(t:Tm),(∀j,j<3->W.cell? ⟨b,off+i*3+j,none⟩=cs[j]?)/\VL (X0 W) W (P5 t) cs/\t.Ok)->∃l:List Tm,l.length=n/\VC (X0 W) W (zC zA l) b off/\mW l
 |0,off,_=>⟨[],rfl,by simp[zC,VC],by rw[mW];trivial⟩|n+1,off,h=>by
  obtain⟨cs,t,hc,ht,hto⟩:=h 0 (by omega);obtain⟨l,hl,hV,hlo⟩:=zGd (W:=W) (b:=b) n (off+3) λi hi=>by obtain⟨cs,t,hc,ht,hto⟩:=h (i+1) (by omega);refine⟨cs,t,λj hj=>?_,ht,hto⟩;rw[<-hc j hj];congr 2;omega
  refine⟨t::l,by simp[hl],?_,by rw[mW];exact⟨hto,hlo⟩⟩;have e:zC zA (t::l)=P5 t++zC zA l:=by simp only[zC,List.flatMap_cons,xY]
  rw[e];refine VC.append _ _ _ _ (zAp _ cs _ _ ht λi hi=>?_) (by simpa[P5]using hV);simpa using hc i (by simpa[P5]using hi)
end Go.Ab
namespace Go.Proofs.YtohkcbcddindpaaGreat
open Go Go.Ab Go.RowKit Go.Proofs Go.Proofs.Tryz
theorem zUn{H:Type}{enc:TypeId×Value->H}{W:World}{n:Nat}{c2:Value}{x:DataW H×List MemPlace}(ih:∀m,n=m+1->∀(cs:List Value)(x:DataW H×List MemPlace),DataW.trod enc prog W 0 (λ_=>true) true m 48 cs=some x->∃t:Tm,VL (X0 W) W (P5 t) cs/\t.Ok)(f2:DataW.trod enc prog W 0 (λ_=>true) true n 22 [c2]=some x):∃l:List Tm,V (X0 W) W (.sl (zC zA l) l.length .no) c2/\mW l/\l.length<9223372036854775808:=by
 rcases DataW.trod_slice Tryz.underlying22 f2 with⟨e2,-⟩|⟨a,len,cap,elems,rest,m,hm,e2,-,-,hle,hmx,hel,hE,hR,-⟩;·cases e2;exact⟨[],by simp only[V];exact⟨0,Nat.le_refl _,.inl ⟨rfl,rfl,rfl,rfl,trivial⟩⟩,by rw[mW];trivial,by simp⟩
 ·cases e2;have rd:∀i,i<cap->∃(cs:List Value)(t:Tm),W.cells? 0 (a.add (i*3)) 3=some cs/\VL (X0 W) W (P5 t) cs/\t.Ok:=by
   intro i hi;have got:∃y,(W.cells? 0 (a.add (i*3)) 3).bind (DataW.trod enc prog W 0 (λ_=>true) true m 48)=some y:=by
    rw[<-zCC];rcases Nat.lt_or_ge i len with hlt|hge;·rw[hE i hlt];exact⟨_,List.getElem?_eq_getElem (by omega)⟩
    ·obtain⟨r1,r2⟩:=hR rfl;have:=r2 (i-len) (by omega);rw[show len+(i-len)=i by omega]at this;rw[this];exact⟨_,List.getElem?_eq_getElem (by omega)⟩
   obtain⟨y,hy⟩:=got;obtain⟨cs,h1,h2⟩:=Option.bind_eq_some_iff.1 hy;obtain⟨t,ht⟩:=ih m hm cs y h2;exact⟨cs,t,h1,ht⟩
  rcases Nat.eq_zero_or_pos cap with e|hpos
  ·subst e;have:len=0:=by omega
   subst this;exact⟨[],by simp only[V];exact⟨0,Nat.le_refl _,.inl ⟨rfl,rfl,rfl,rfl,trivial⟩⟩,by rw[mW];trivial,by simp⟩
  ·obtain⟨b,off,spot⟩:=a;have hsp:spot=none:=by obtain⟨cs,t,h1,h2⟩:=rd 0 hpos;obtain⟨_,hl,hc⟩:=World.cells?_some h1;have g0:=hc 0 (by omega);obtain⟨c0,hc0⟩:∃c0,cs[0]?=some c0:=⟨_,List.getElem?_eq_getElem (by omega)⟩;rw[hc0]at g0;simpa[Addr.add]using World.cell?_spot g0
   subst hsp;obtain⟨l,hl,hV,hlo⟩:=zGd (W:=W) (b:=b) len off λi hi=>by obtain⟨cs,t,h1,h2⟩:=rd i (by omega);obtain⟨_,_,hc⟩:=World.cells?_some h1;exact⟨cs,t,λj hj=>by have:=hc j hj;simpa[Addr.add_lit]using this,h2⟩
   refine⟨l,?_,hlo,by have:maxLen=9223372036854775807:=rfl;omega⟩;simp only[V];exact⟨cap,by omega,.inr ⟨b,off,by rw[hl],hV,trivial⟩⟩
theorem u4{H:Type}{enc:TypeId×Value->H}{W:World}:∀(fuel:Nat)(cs:List Value)(x:DataW H×List MemPlace),DataW.trod enc prog W 0 (λ_=>true) true fuel 48 cs=some x->∃t:Tm,VL (X0 W) W (P5 t) cs/\t.Ok:=by intro fuel;induction fuel using Nat.strongRecOn with|ind fuel ih=>
 intro cs x h;obtain⟨xs,n,hn,-,hlen,hxs,hf⟩:=DataW.trod_struct Tryz.underlying48 h;have hlen:cs.length=3:=hlen.trans zCC;obtain⟨c0,c1,c2,rfl⟩:∃c0 c1 c2,cs=[c0,c1,c2]:=by rcases cs with _|⟨a,_|⟨b,_|⟨c,_|⟨e,cs⟩⟩⟩⟩<;>simp only[List.length_nil,List.length_cons]at hlen<;>first|exact⟨a,b,c,rfl⟩|omega
 have c3:prog.cellsOf 3=1:=by kernel_rfl
 have c42:prog.cellsOf 22=1:=by kernel_rfl
 have f0:DataW.trod enc prog W 0 (λ_=>true) true n 3 ((List.drop 0 [c0,c1,c2]).take (prog.cellsOf 3))=xs[0]?:=hf 0 _ rfl;have f1:DataW.trod enc prog W 0 (λ_=>true) true n 3 ((List.drop 1 [c0,c1,c2]).take (prog.cellsOf 3))=xs[1]?:=hf 1 _ rfl;have f2:DataW.trod enc prog W 0 (λ_=>true) true n 22 ((List.drop 2 [c0,c1,c2]).take (prog.cellsOf 22))=xs[2]?:=hf 2 _ rfl;rw[c3]at f0 f1;rw[c42]at f2;replace f0:DataW.trod enc prog W 0 (λ_=>true) true n 3 [c0]=xs[0]?:=f0;replace f1:DataW.trod enc prog W 0 (λ_=>true) true n 3 [c1]=xs[1]?:=f1;replace f2:DataW.trod enc prog W 0 (λ_=>true) true n 22 [c2]=xs[2]?:=f2;have hsz:xs.length=3:=hxs;obtain⟨y0,y1,y2,rfl⟩:∃y0 y1 y2,xs=[y0,y1,y2]:=by rcases xs with _|⟨a,_|⟨b,_|⟨c,_|⟨e,xs⟩⟩⟩⟩<;>simp only[List.length_nil,List.length_cons]at hsz<;>first|exact⟨a,b,c,rfl⟩|omega
 simp only[List.getElem?_cons_zero,List.getElem?_cons_succ]at f0 f1 f2;obtain⟨k0,e0,-,-⟩:=DataW.trod_int Tryz.underlying3 f0;obtain⟨k1,e1,-,-⟩:=DataW.trod_int Tryz.underlying3 f1;cases e0;cases e1;have key:=zUn (W:=W) (n:=n) (λm hm cs x hx=>ih m (by omega) cs x hx) f2;obtain⟨l,hl,ho,hlen⟩:=key;refine⟨.mk k0 k1 l,?_,by rw[Tm.Ok];exact⟨hlen,ho⟩⟩;simp only[P5,Tm.k,Tm.n,Tm.sub,VL];exact⟨by simp only[V],by simp only[V],hl,trivial⟩
end Go.Proofs.YtohkcbcddindpaaGreat
namespace Go.Ab
open Go Go.RowKit
def Wt{H:Type}(P:Program)(t:TypeId)(d:DataW H):Prop:=∀w∈d.weights P t,w<=reachBytes
theorem u5{H:Type}{P:Program}:∀(ts:List TypeId)(ds:List (DataW H))(i:Nat)(t:TypeId)(d:DataW H),ts[i]?=some t->ds[i]?=some d->∀w∈d.weights P t,w∈DataW.weightsEach P ts ds|[],_,i,t,d,h,_,w,_=>by simp at h|_::_,[],i,t,d,_,h,w,_=>by simp at h|t0::ts,d0::ds,0,t,d,h,k,w,hw=>by simp only[List.getElem?_cons_zero,Option.some.injEq]at h k;subst h;subst k;rw[DataW.weightsEach];exact List.mem_append_left _ hw|t0::ts,d0::ds,i+1,t,d,h,k,w,hw=>by rw[DataW.weightsEach];exact List.mem_append_right _ (u5 ts ds i t d (by simpa using h) (by simpa using k) w hw)
theorem zJC{H:Type}{P:Program}{e:TypeId}:∀(ds:List (DataW H))(d:DataW H),d∈ds->∀w∈d.weights P e,w∈DataW.weightsAll P e ds
 |d0::ds,d,h,w,hw=>by
  rw[DataW.weightsAll];rcases List.mem_cons.1 h with rfl|h;·exact List.mem_append_left _ hw
  ·exact List.mem_append_right _ (zJC ds d h w hw)
theorem qW{H:Type}{P:Program}{t:TypeId}{fs:Array Field}(ht:P.underlying t=some (.struct fs)){parts:List (DataW H)}(h:Wt P t (.agg parts)){i:Nat}{f:Field}{d:DataW H}(hf:fs[i]?=some f)(hd:parts[i]?=some d):Wt P f.type d:=λw hw=>by refine h w ?_;rw[DataW.weights,ht];exact u5 _ _ i f.type d (by rw[List.getElem?_map,Array.getElem?_toList,hf];rfl) hd w hw
theorem zQJ{H:Type}{P:Program}{t e:TypeId}(ht:P.underlying t=some (.slice e)){es rs:List (DataW H)}(h:Wt P t (.slice es rs)):(es.length+rs.length)*P.bytesOf e<=reachBytes/\(∀d∈es,Wt P e d)/\∀d∈rs,Wt P e d:=by
 unfold Wt at h;rw[DataW.weights,ht]at h;refine⟨h _ (by simp),λd hd w hw=>h w ?_,λd hd w hw=>h w ?_⟩;·exact List.mem_cons_of_mem _ (List.mem_append_left _ (zJC es d hd w hw))
 ·exact List.mem_cons_of_mem _ (List.mem_append_right _ (zJC rs d hd w hw))
theorem zCT{α:Type}(cells:α->List AV)(c:Nat)(hcl:∀x,(cells x).length=c){W:World}{b:Nat}{Q:α->Prop}:∀(n off:Nat),(∀i,i<n->∃(cs:List Value)(x:α),(∀j,j<c->W.cell? ⟨b,off+i*c+j,none⟩=cs[j]?)/\VL (X0 W) W (cells x) cs/\Q x)->∃l:List α,l.length=n/\VC (X0 W) W (zC cells l) b off/\∀x∈l,Q x
 |0,off,_=>⟨[],rfl,by simp[zC,VC],λ_ h=>nomatch h⟩|n+1,off,h=>by
  obtain⟨cs,t,hc,ht,hq⟩:=h 0 (by omega);obtain⟨l,hl,hV,hlo⟩:=zCT cells c hcl (W:=W) (b:=b) (Q:=Q) n (off+c) λi hi=>by obtain⟨cs,t,hc,ht,hto⟩:=h (i+1) (by omega);refine⟨cs,t,λj hj=>?_,ht,hto⟩;rw[<-hc j hj];congr 2;rw[Nat.succ_mul];omega
  refine⟨t::l,by simp[hl],?_,λx hx=>(List.mem_cons.1 hx).elim (λe=>e▸hq) (hlo x)⟩;have e:zC cells (t::l)=cells t++zC cells l:=by simp only[zC,List.flatMap_cons]
  rw[e];refine VC.append _ _ _ _ (zAp _ cs _ _ ht λi hi=>?_) (by rw[hcl];exact hV);rw[hcl]at hi;simpa using hc i hi
theorem lL{α:Type}(cells:α->List AV)(c:Nat)(hcl:∀x,(cells x).length=c)(hpos:0<c){H:Type}{enc:TypeId×Value->H}{P:Program}{W:World}{n:Nat}{t e:TypeId}{c2:Value}{x:DataW H×List MemPlace}{Q:α->Prop}(ht:P.underlying t=some (.slice e))(hc:P.cellsOf e=c)(ih:∀m,n=m+1->∀(cs:List Value)(x:DataW H×List MemPlace),DataW.trod enc P W 0 (λ_=>true) true m e cs=some x->Wt P e x.1->∃a:α,VL (X0 W) W (cells a) cs/\Q a)(f2:DataW.trod enc P W 0 (λ_=>true) true n t [c2]=some x)(hw:Wt P t x.1):∃l:List α,V (X0 W) W (.sl (zC cells l) l.length .no) c2/\(∀a∈l,Q a)/\l.length*P.bytesOf e<=reachBytes:=by
 rcases DataW.trod_slice ht f2 with⟨e2,-⟩|⟨a,len,cap,elems,rest,m,hm,e2,hx,-,hle,hmx,hel,hE,hR,-⟩;·cases e2;exact⟨[],by simp only[V];exact⟨0,Nat.le_refl _,.inl ⟨rfl,rfl,rfl,rfl,trivial⟩⟩,λ_ h=>(nomatch h),by simp⟩
 ·cases e2;rw[hx]at hw;obtain⟨w1,w2,w3⟩:=zQJ ht hw;rw[hc]at hE hR;have rd:∀i,i<cap->∃(cs:List Value)(t:α),W.cells? 0 (a.add (i*c)) c=some cs/\VL (X0 W) W (cells t) cs/\Q t:=by
   intro i hi;have got:∃y,(W.cells? 0 (a.add (i*c)) c).bind (DataW.trod enc P W 0 (λ_=>true) true m e)=some y/\Wt P e y.1:=by
    rcases Nat.lt_or_ge i len with hlt|hge;·rw[hE i hlt];exact⟨_,List.getElem?_eq_getElem (by omega),w2 _ (List.mem_map_of_mem (List.getElem_mem _))⟩
    ·obtain⟨r1,r2⟩:=hR rfl;have:=r2 (i-len) (by omega);rw[show len+(i-len)=i by omega]at this;rw[this];exact⟨_,List.getElem?_eq_getElem (by omega),w3 _ (List.mem_map_of_mem (List.getElem_mem _))⟩
   obtain⟨y,hy,hyw⟩:=got;obtain⟨cs,h1,h2⟩:=Option.bind_eq_some_iff.1 hy;obtain⟨t,ht⟩:=ih m hm cs y h2 hyw;exact⟨cs,t,h1,ht⟩
  rcases Nat.eq_zero_or_pos cap with e0|hp
  ·subst e0;have:len=0:=by omega
   subst this;exact⟨[],by simp only[V];exact⟨0,Nat.le_refl _,.inl ⟨rfl,rfl,rfl,rfl,trivial⟩⟩,λ_ h=>(nomatch h),by simp⟩
  ·obtain⟨b,off,spot⟩:=a;have hsp:spot=none:=by obtain⟨cs,t,h1,h2⟩:=rd 0 hp;obtain⟨_,hl,hcc⟩:=World.cells?_some h1;have g0:=hcc 0 (by omega);obtain⟨c0,hc0⟩:∃c0,cs[0]?=some c0:=⟨_,List.getElem?_eq_getElem (by omega)⟩;rw[hc0]at g0;simpa[Addr.add]using World.cell?_spot g0
   subst hsp;obtain⟨l,hl,hV,hlo⟩:=zCT cells c hcl (W:=W) (b:=b) (Q:=Q) len off λi hi=>by obtain⟨cs,t,h1,h2⟩:=rd i (by omega);obtain⟨_,_,hcc⟩:=World.cells?_some h1;exact⟨cs,t,λj hj=>by have:=hcc j hj;simpa[Addr.add_lit]using this,h2⟩
   refine⟨l,?_,hlo,?_⟩
   ·simp only[V];exact⟨cap,by omega,.inr ⟨b,off,by rw[hl],hV,trivial⟩⟩
   ·rw[List.length_map,List.length_map,hel]at w1;rw[hl];exact Nat.le_trans (Nat.mul_le_mul_right _ (Nat.le_add_right _ _)) w1
end Go.Ab
namespace Go.Proofs.YtohkcbcddindpaaGreat
open Go Go.Ab Go.RowKit Go.Proofs Go.Proofs.Tryz
def RdE(e:yI):Prop:=e.type.Ok/\e.body.Ok/\e.cons.length<=17592186044416/\e.fields.length<=17592186044416
theorem zLB{H:Type}{enc:TypeId×Value->H}{W:World}{n:Nat}{c2:Value}{x:DataW H×List MemPlace}(f2:DataW.trod enc prog W 0 (λ_=>true) true n 58 [c2]=some x)(hw:Wt prog 58 x.1):∃l:List Int,V (X0 W) W (.sl (zC zZ l) l.length .no) c2/\l.length<=17592186044416:=by
 obtain⟨l,h1,-,h2⟩:=lL zZ 1 (λ_=>rfl) (by omega) (Q:=λ_=>True) Tryz.underlying58 (by kernel_rfl) (λm _ cs x h _=>by obtain⟨k,e,-⟩:=DataW.trod_int Tryz.underlying3 h;subst e;exact⟨k,by simp only[zZ,VL,V,and_true],trivial⟩) f2 hw;refine⟨l,h1,?_⟩;have:prog.bytesOf 3=8:=by kernel_rfl
 rw[this]at h2;have:reachBytes=140737488351232:=rfl;omega
theorem zYr{α:Type}(l:List α)(h:l.length=15):∃c0 c1 c2 c3 c4 c5 c6 c7 c8 c9 u6 c11 c12 c13 c14,l=[c0,c1,c2,c3,c4,c5,c6,c7,c8,c9,u6,c11,c12,c13,c14]:=by rcases l with _|⟨c0,_|⟨c1,_|⟨c2,_|⟨c3,_|⟨c4,_|⟨c5,_|⟨c6,_|⟨c7,_|⟨c8,_|⟨c9,_|⟨u6,_|⟨c11,_|⟨c12,_|⟨c13,_|⟨c14,_|⟨zz,zs⟩⟩⟩⟩⟩⟩⟩⟩⟩⟩⟩⟩⟩⟩⟩⟩<;>simp only[List.length_nil,List.length_cons]at h<;>first|exact⟨c0,c1,c2,c3,c4,c5,c6,c7,c8,c9,u6,c11,c12,c13,c14,rfl⟩|omega
theorem zYq{α:Type}(l:List α)(h:l.length=11):∃y0 y1 y2 y3 y4 y5 y6 y7 y8 y9 y10,l=[y0,y1,y2,y3,y4,y5,y6,y7,y8,y9,y10]:=by rcases l with _|⟨y0,_|⟨y1,_|⟨y2,_|⟨y3,_|⟨y4,_|⟨y5,_|⟨y6,_|⟨y7,_|⟨y8,_|⟨y9,_|⟨y10,_|⟨zz,zs⟩⟩⟩⟩⟩⟩⟩⟩⟩⟩⟩⟩<;>simp only[List.length_nil,List.length_cons]at h<;>first|exact⟨y0,y1,y2,y3,y4,y5,y6,y7,y8,y9,y10,rfl⟩|omega
theorem zQK{H:Type}{enc:TypeId×Value->H}{W:World}(fuel:Nat)(cs:List Value)(x:DataW H×List MemPlace)(h:DataW.trod enc prog W 0 (λ_=>true) true fuel 63 cs=some x)(hw:Wt prog 63 x.1):∃e:yI,VL (X0 W) W (xA e) cs/\RdE e:=by
 obtain⟨xs,n,hn,hx,hlen,hxs,hf⟩:=DataW.trod_struct Tryz.underlying63 h;rw[hx]at hw;have c15:prog.cellsOf 63=15:=by kernel_rfl
 obtain⟨c0,c1,c2,c3,c4,c5,c6,c7,c8,c9,u6,c11,c12,c13,c14,rfl⟩:=zYr cs (hlen.trans c15);obtain⟨y0,y1,y2,y3,y4,y5,y6,y7,y8,y9,y10,rfl⟩:=zYq xs hxs;have kINT:prog.cellsOf 3=1:=by kernel_rfl
 have kSTR:prog.cellsOf 9=1:=by kernel_rfl
 have kTERM:prog.cellsOf 48=3:=by kernel_rfl
 have kINTS:prog.cellsOf 58=1:=by kernel_rfl
 have f0:DataW.trod enc prog W 0 (λ_=>true) true n 3 ((List.drop 0 [c0,c1,c2,c3,c4,c5,c6,c7,c8,c9,u6,c11,c12,c13,c14]).take (prog.cellsOf 3))=some y0:=hf 0 _ rfl;rw[kINT]at f0;replace f0:DataW.trod enc prog W 0 (λ_=>true) true n 3 [c0]=some y0:=f0;have f1:DataW.trod enc prog W 0 (λ_=>true) true n 9 ((List.drop 1 [c0,c1,c2,c3,c4,c5,c6,c7,c8,c9,u6,c11,c12,c13,c14]).take (prog.cellsOf 9))=some y1:=hf 1 _ rfl;rw[kSTR]at f1;replace f1:DataW.trod enc prog W 0 (λ_=>true) true n 9 [c1]=some y1:=f1;have f2:DataW.trod enc prog W 0 (λ_=>true) true n 48 ((List.drop 2 [c0,c1,c2,c3,c4,c5,c6,c7,c8,c9,u6,c11,c12,c13,c14]).take (prog.cellsOf 48))=some y2:=hf 2 _ rfl;rw[kTERM]at f2;replace f2:DataW.trod enc prog W 0 (λ_=>true) true n 48 [c2,c3,c4]=some y2:=f2;have f3:DataW.trod enc prog W 0 (λ_=>true) true n 48 ((List.drop 5 [c0,c1,c2,c3,c4,c5,c6,c7,c8,c9,u6,c11,c12,c13,c14]).take (prog.cellsOf 48))=some y3:=hf 3 _ rfl;rw[kTERM]at f3;replace f3:DataW.trod enc prog W 0 (λ_=>true) true n 48 [c5,c6,c7]=some y3:=f3;have f4:DataW.trod enc prog W 0 (λ_=>true) true n 3 ((List.drop 8 [c0,c1,c2,c3,c4,c5,c6,c7,c8,c9,u6,c11,c12,c13,c14]).take (prog.cellsOf 3))=some y4:=hf 4 _ rfl;rw[kINT]at f4;replace f4:DataW.trod enc prog W 0 (λ_=>true) true n 3 [c8]=some y4:=f4;have f5:DataW.trod enc prog W 0 (λ_=>true) true n 3 ((List.drop 9 [c0,c1,c2,c3,c4,c5,c6,c7,c8,c9,u6,c11,c12,c13,c14]).take (prog.cellsOf 3))=some y5:=hf 5 _ rfl;rw[kINT]at f5;replace f5:DataW.trod enc prog W 0 (λ_=>true) true n 3 [c9]=some y5:=f5;have f6:DataW.trod enc prog W 0 (λ_=>true) true n 3 ((List.drop 10 [c0,c1,c2,c3,c4,c5,c6,c7,c8,c9,u6,c11,c12,c13,c14]).take (prog.cellsOf 3))=some y6:=hf 6 _ rfl;rw[kINT]at f6;replace f6:DataW.trod enc prog W 0 (λ_=>true) true n 3 [u6]=some y6:=f6;have f7:DataW.trod enc prog W 0 (λ_=>true) true n 3 ((List.drop 11 [c0,c1,c2,c3,c4,c5,c6,c7,c8,c9,u6,c11,c12,c13,c14]).take (prog.cellsOf 3))=some y7:=hf 7 _ rfl;rw[kINT]at f7;replace f7:DataW.trod enc prog W 0 (λ_=>true) true n 3 [c11]=some y7:=f7;have f8:DataW.trod enc prog W 0 (λ_=>true) true n 3 ((List.drop 12 [c0,c1,c2,c3,c4,c5,c6,c7,c8,c9,u6,c11,c12,c13,c14]).take (prog.cellsOf 3))=some y8:=hf 8 _ rfl;rw[kINT]at f8;replace f8:DataW.trod enc prog W 0 (λ_=>true) true n 3 [c12]=some y8:=f8;have f9:DataW.trod enc prog W 0 (λ_=>true) true n 58 ((List.drop 13 [c0,c1,c2,c3,c4,c5,c6,c7,c8,c9,u6,c11,c12,c13,c14]).take (prog.cellsOf 58))=some y9:=hf 9 _ rfl;rw[kINTS]at f9;replace f9:DataW.trod enc prog W 0 (λ_=>true) true n 58 [c13]=some y9:=f9;have f10:DataW.trod enc prog W 0 (λ_=>true) true n 58 ((List.drop 14 [c0,c1,c2,c3,c4,c5,c6,c7,c8,c9,u6,c11,c12,c13,c14]).take (prog.cellsOf 58))=some y10:=hf 10 _ rfl;rw[kINTS]at f10;replace f10:DataW.trod enc prog W 0 (λ_=>true) true n 58 [c14]=some y10:=f10;obtain⟨n0,e0,-,-⟩:=DataW.trod_int Tryz.underlying3 f0;cases e0;obtain⟨n1,e1,-,-⟩:=DataW.trod_string Tryz.underlying9 f1;cases e1;obtain⟨t2,v2,o2⟩:=u4 _ _ _ f2;obtain⟨t3,v3,o3⟩:=u4 _ _ _ f3;obtain⟨n4,e4,-,-⟩:=DataW.trod_int Tryz.underlying3 f4;cases e4;obtain⟨n5,e5,-,-⟩:=DataW.trod_int Tryz.underlying3 f5;cases e5;obtain⟨n6,e6,-,-⟩:=DataW.trod_int Tryz.underlying3 f6;cases e6;obtain⟨n7,e7,-,-⟩:=DataW.trod_int Tryz.underlying3 f7;cases e7;obtain⟨n8,e8,-,-⟩:=DataW.trod_int Tryz.underlying3 f8;cases e8;obtain⟨l9,v9,o9⟩:=zLB f9 (qW Tryz.underlying63 hw (i:=9) rfl rfl);obtain⟨l10,v10,o10⟩:=zLB f10 (qW Tryz.underlying63 hw (i:=10) rfl rfl);simp only[P5,VL]at v2 v3;refine⟨yI.mk n0 n1 t2 t3 n4 n5 n6 n7 n8 l9 l10,?_,o2,o3,o9,o10⟩;simp only[xA,VL];exact⟨by simp only[V],by simp only[V],v2.1,v2.2.1,v2.2.2.1,v3.1,v3.2.1,v3.2.2.1,by simp only[V],by simp only[V],by simp only[V],by simp only[V],by simp only[V],v9,v10,trivial⟩
theorem zUm{H:Type}{enc:TypeId×Value->H}{W:World}{v:Value}{d:DataW H}{p:List MemPlace}(hv:∃(q:Option Addr)(m c:Nat),v=.slice q m c)(h:DataW.Trod enc prog W 0 (λ_=>true) true 26 v d p)(hw:Wt prog 26 d):∃l:List yI,V (X0 W) W (.sl (zC xA l) l.length .no) v/\∀e∈l,RdE e:=by obtain⟨q,m,c,rfl⟩:=hv;obtain⟨fuel,hf⟩:=h;obtain⟨l,h1,h2,-⟩:=lL xA 15 (λ_=>rfl) (by omega) (Q:=RdE) Tryz.underlying26 (by kernel_rfl) (λm _ cs x h hw=>zQK m cs x h hw) (n:=fuel) (by simpa[Value.cells]using hf) hw;exact⟨l,h1,h2⟩
mutual def zNK:Nat->Tm->Int->Option (Int)|0,_,_=>none|c+1,a,d=>cD c a (xC (d+1)) 0 def cD:Nat->Tm->Int->Int->Option (Int)
 |0,_,_,_=>none|c+1,a,e,b=>if decide (b<(a.sub.length:Int))then zS a.sub b>>=λx2=>if decide (e>8192)then some e else zNK c x2 e>>=λr5=>cD c a r5 (xC (b+1))else some e end
theorem zGc:∀c:Nat,(∀a d,Cz (zNK c a d) 198 [] [yZ a,ai d] (λr=>ai r) (λ_=>[]) 0)/\(∀a e b,Lz (cD c a e b) 0 f198 (pt 4021 f198) (λj=>sp j 23 0 [(1,ai e),(10,zN zA a.sub .no),(11,ai (a.sub.length:Int)),(12,ai b)]) ⟨[],0,[],0,[]⟩ (λr=>ai r) (λ_=>[]) 0 [.blk 0,.seq (pt 63 f198)]):=xX ⟨λ_ _=>cN,λ_ _ _=>lN⟩ λc ih=>⟨λa d=>fw func198<|fH 3 [] [] [] [1,10,11,12] (ih.2 _ _ _),λa e b=>lw λ_=>rB 0 (rA 0 (xP (o:=.no)) λ_=>rB 2 (lE 0)<|rC 1 [] (ih.1 _ _) λ_=>lH 1 [] [] [] [1,10,11,12] (ih.2 _ _ _))<|lE 0⟩
theorem yDN{c a d}:Cz (zNK c a d) 198 [] [yZ a,ai d] (λr=>ai r) (λ_=>[]) 0:=(zGc _).1 _ _
def zNL(b:Nat)(a:Tm):Option (Int):=zNK b a 0>>=λr1=>some r1
theorem zYp{b a}:Cz (zNL b a) 165 [] [yZ a] (λr=>ai r) (λ_=>[]) 0:=fw func165<|rC 1 [] yDN λ_=>fE 0
mutual def zNM:Nat->Tm->Int->Option (Int)
 |0,_,_=>none|d+1,b,a=>if decide (a>128)then some a else cE d b a 0 a def cE:Nat->Tm->Int->Int->Int->Option (Int)
 |0,_,_,_,_=>none|d+1,b,a,c,e=>if decide (c<(b.sub.length:Int))then zS b.sub c>>=λx3=>zNM d x3 (xC (a+1))>>=λr5=>cE d b a (xC (c+1)) (kM e r5)else some e end
theorem zGb:∀d:Nat,(∀b a,Cz (zNM d b a) 166 [] [yZ b,ai a] (λr=>ai r) (λ_=>[]) 0)/\(∀b a c e,Lz (cE d b a c e) 0 f166 (pt 16309 f166) (λj=>sp j 27 0 [(1,ai a),(5,ai e),(13,zN zA b.sub .no),(14,ai (b.sub.length:Int)),(15,ai c)]) ⟨[],0,[],0,[]⟩ (λr=>ai r) (λ_=>[]) 0 [.blk 0,.seq (pt 255 f166)]):=xX ⟨λ_ _=>cN,λ_ _ _ _=>lN⟩ λd ih=>⟨λb a=>fw func166<|rB 0 (fE 0)<|fH 2 [] [] [] [1,5,13,14,15] (ih.2 _ _ _ _),λb a c e=>lw λ_=>rB 0 (rA 0 (xP (o:=.no)) λ_=>rC 4 [] (ih.1 _ _) λ_=>lH 2 [] [] [] [1,5,13,14,15] (ih.2 _ _ _ _))<|lE 0⟩
theorem yDO{d b a}:Cz (zNM d b a) 166 [] [yZ b,ai a] (λr=>ai r) (λ_=>[]) 0:=(zGb _).1 _ _
def zUl(b:Nat)(a:Tm):Option (Int):=zNL b a>>=λr1=>if decide (r1>8192)then some 129 else zNM b a 1>>=λr4=>some r4
theorem yDP{b a}:Cz (zUl b a) 123 [] [yZ a] (λr=>ai r) (λ_=>[]) 0:=fw func123<|rC 1 [] zYp λ_=>rB 0 (fE 0)<|rC 1 [] yDO λ_=>fE 0
def zUk(b:Nat)(a:Tm):Option (Bool):=if decide (a.k<1)then some false else if decide (a.k>8)then some false else zS ([0,0,0,2,2,2,0,1,0]:yD) a.k>>=λx3=>zS ([0,1048576,7,0,0,0,1048576,1048576,1048576]:yD) a.k>>=λx5=>if(a.sub.length:Int)==x3 then if decide (a.n>=0)then if decide (a.n<=x5)then if a.k !=7 then some true else zS a.sub 0>>=λx11=>some (x11.k==2)else some false else some false else some false
theorem yDQ{b a}:Cz (zUk b a) 167 [] [yZ a] (λr=>ab r) (λ_=>[]) 0:=fw func167<|rB 1 (fE 0)<|rB 1 (fE 0)<|rW (λh4=>oA 1 (zGf h4 rfl)) λ_=>rW (λh6=>oA 1 (zGf h6 rfl)) λ_=>rB 2 (rB 1 (rB 1 (rB 1 (fE 0)<|rA 1 (xP (o:=.no)) λ_=>fE 2)<|fE 0)<|fE 0)<|fE 0
mutual def zNN:Nat->Tm->Option (Bool)
 |0,_=>none|c+1,a=>zUk c a>>=λr1=>if r1 then cF c a 0 else some false def cF:Nat->Tm->Int->Option (Bool)
 |0,_,_=>none|c+1,a,b=>if decide (b<(a.sub.length:Int))then zS a.sub b>>=λx5=>zNN c x5>>=λr7=>if r7 then cF c a (xC (b+1))else some false else some true end
theorem zGa:∀c:Nat,(∀a,Cz (zNN c a) 124 [] [yZ a] (λr=>ab r) (λ_=>[]) 0)/\(∀a b,Lz (cF c a b) 0 f124 (pt 4021 f124) (λj=>sp j 19 0 [(9,zN zA a.sub .no),(10,ai (a.sub.length:Int)),(11,ai b)]) ⟨[],0,[],0,[]⟩ (λr=>ab r) (λ_=>[]) 0 [.blk 0,.seq (pt 63 f124)]):=xX ⟨λ_=>cN,λ_ _=>lN⟩ λc ih=>⟨λa=>fw func124<|rK 1 [] yDQ (λ_=>fH 3 [] [] [] [9,10,11] (ih.2 _ _)) λ_=>fE 1,λa b=>lw λ_=>rB 0 (rA 0 (xP (o:=.no)) λ_=>rK 3 [] (ih.1 _) (λ_=>lH 2 [] [] [] [9,10,11] (ih.2 _ _)) λ_=>lE 1)<|lE 0⟩
theorem yDR{c a}:Cz (zNN c a) 124 [] [yZ a] (λr=>ab r) (λ_=>[]) 0:=(zGa _).1 _
def cG(b:Nat)(a:Tm):Option (Bool):=zUl b a>>=λr1=>if decide (r1<=128)then zNN b a>>=λr4=>some r4 else some false
theorem aR{b a}:Cz (cG b a) 93 [] [yZ a] (λr=>ab r) (λ_=>[]) 0:=fw func93<|rC 1 [] yDP λ_=>rB 0 (rC 1 [] yDR λ_=>fE 0)<|fE 0
mutual theorem zLC:∀(t:Tm)(h:Int),t.Ok->0<=h->h<=8192->zF (λq=>zNK q t h) (szT t h)|.mk k n l,h,ho,h0,h1=>by refine zF.succ ?_;simp only[zNK];rw[yS (by omega) (by omega),szT];exact zGA l (.mk k n l) 0 (h+1) rfl ho.1 ho.2 (by omega) (by omega)theorem zGA:∀(l:List Tm)(p:Tm)(v:Nat)(h:Int),p.sub.drop v=l->p.sub.length<9223372036854775808->mW l->0<=h->h<=8193->zF (λq=>cD q p h (v:Int)) (szL l h)
 |[],p,v,h,hd,hl,ho,h0,h1=>by refine zF.succ ?_;simp only[cD];rw[szL];exact zF.ifF (zY hd) zF.ret|t::l,p,v,h,hd,hl,ho,h0,h1=>by
  refine zF.succ ?_;simp only[cD];refine zF.ifT (zX hd) (zF.pure (zV hd) ?_);rw[szL];by_cases h2:h>8192;·rw[if_pos h2];exact zF.ifT (by simpa using h2) zF.ret
  ·rw[if_neg h2];refine zF.ifF (by simpa using h2) ((zLC t h ho.1 h0 (by omega)).bind ?_);rw[zU v (by have:=yC hd;omega)];have:=zGe t h h0 (by omega);exact zGA l p (v+1) (szT t h) (zR hd) hl ho.2 (by omega) (by omega)end
theorem zEE(t:Tm)(ho:t.Ok):zF (λq=>zNL q t) (szT t 0):=by simp only[zNL];exact(zLC t 0 ho (by omega) (by omega)).bind zF.ret
mutual theorem zLD:∀(t:Tm)(a:Int),t.Ok->0<=a->a<=129->zF (λq=>zNM q t a) (dpT t a)
 |.mk k n l,a,ho,h0,h1=>by
  refine zF.succ ?_;simp only[zNM];rw[dpT];by_cases h2:a>128;·rw[if_pos h2];exact zF.ifT (by simpa using h2) zF.ret
  ·rw[if_neg h2];exact zF.ifF (by simpa using h2) (zGB l (.mk k n l) 0 a a rfl ho.1 ho.2 h0 (by omega))theorem zGB:∀(l:List Tm)(p:Tm)(v:Nat)(a m:Int),p.sub.drop v=l->p.sub.length<9223372036854775808->mW l->0<=a->a<=128->zF (λq=>cE q p a (v:Int) m) (dpL l a m)|[],p,v,a,m,hd,hl,ho,h0,h1=>by refine zF.succ ?_;simp only[cE];rw[dpL];exact zF.ifF (zY hd) zF.ret|t::l,p,v,a,m,hd,hl,ho,h0,h1=>by refine zF.succ ?_;simp only[cE];refine zF.ifT (zX hd) (zF.pure (zV hd) ?_);rw[dpL,yS (x:=a+1) (by omega) (by omega)];refine(zLD t (a+1) ho.1 (by omega) (by omega)).bind ?_;rw[zU v (by have:=yC hd;omega)];exact zGB l p (v+1) a _ (zR hd) hl ho.2 h0 h1 end
def zQL(t:Tm):Int:=if szT t 0>8192 then 129 else dpT t 1
theorem zQM(t:Tm)(ho:t.Ok):zF (λq=>zUl q t) (zQL t):=by
 simp only[zUl];refine(zEE t ho).bind ?_;unfold zQL;by_cases h:szT t 0>8192;·rw[if_pos h];exact zF.ifT (by simpa using h) zF.ret
 ·rw[if_neg h];exact zF.ifF (by simpa using h) ((zLD t 1 ho (by omega) (by omega)).bind zF.ret)
theorem zUj(t:Tm):zQL t<=128↔t.nodes<=8192/\t.high<=128:=by
 have h1:=zQF t 0 (by omega) (by omega);have h2:=zQH t 1 (by omega) (by omega);unfold zQL;by_cases h3:t.nodes<=8192
 ·rw[if_neg (by rw[h1.1 (by omega)];omega)];by_cases h4:t.high<=128;·rw[h2.1 (by omega)];omega
  ·rw[h2.2 (by omega)];omega
 ·rw[if_pos (by rw[h1.2 (by omega)];omega)];omega
theorem zUi(t:Tm):zF (λq=>zUk q t) (rP t):=by
 refine zF.mk λq=>?_;unfold zUk rP;generalize t.k=k;generalize t.n=n;generalize t.sub=l;by_cases h1:k<1;·rw[zXT (decide_eq_true h1)];simp;omega
 ·by_cases h2:k>8;·rw[zUu (decide_eq_false h1),zXT (decide_eq_true h2)];simp;omega
  ·rw[zUu (decide_eq_false h1),zUu (decide_eq_false h2)];have:k=1\/k=2\/k=3\/k=4\/k=5\/k=6\/k=7\/k=8:=by omega
   rcases this with rfl|rfl|rfl|rfl|rfl|rfl|rfl|rfl;case inr.inr.inr.inr.inr.inr.inl=>rcases l with _|⟨x,_|⟨y,l⟩⟩<;>simp[zS]<;>grind
   case inr.inr.inl|inr.inr.inr.inl|inr.inr.inr.inr.inl=>
    by_cases hl:l.length=2;·simp[zS,hl];grind
    ·have h':¬((l.length:Int)=2):=by omega
     simp[zS,hl,h']
   all_goals(simp[zS];grind)
mutual theorem zLE:∀(t:Tm),t.Ok->zF (λq=>zNN q t) (xQ t)|.mk k n l,ho=>by refine zF.succ ?_;simp only[zNN];refine(zUi (.mk k n l)).bind ?_;rw[xQ];cases rP (.mk k n l)with|false=>exact zF.ifF rfl zF.ret|true=>exact zF.ifT rfl (zGC l (.mk k n l) 0 rfl ho.1 ho.2)theorem zGC:∀(l:List Tm)(p:Tm)(v:Nat),p.sub.drop v=l->p.sub.length<9223372036854775808->mW l->zF (λq=>cF q p (v:Int)) (vS l)|[],p,v,hd,hl,ho=>by refine zF.succ ?_;simp only[cF];rw[vS];exact zF.ifF (zY hd) zF.ret|t::l,p,v,hd,hl,ho=>by refine zF.succ ?_;simp only[cF];refine zF.ifT (zX hd) (zF.pure (zV hd) ((zLE t ho.1).bind ?_));rw[vS];cases xQ t with|false=>exact zF.ifF rfl zF.ret|true=>refine zF.ifT rfl ?_;rw[zU v (by have:=yC hd;omega)];exact zGC l p (v+1) (zR hd) hl ho.2 end
theorem xM(t:Tm)(ho:t.Ok):zF (λq=>cG q t) (zG t):=by
 simp only[cG];refine(zQM t ho).bind ?_;have h:=zUj t;unfold zG;by_cases h1:zQL t<=128
 ·refine zF.ifT (by simpa using h1) (((zLE t ho).bind zF.ret).eq ?_);have:=h.1 h1;simp[this.1,this.2]
 ·refine zF.ifF (by simpa using h1) (zF.ret.eq ?_);by_cases h2:t.nodes<=8192
  ·by_cases h3:t.high<=128;·exact absurd (h.2 ⟨h2,h3⟩) h1
   ·simp[h3]
  ·simp[h2]
def zUh(c:Nat)(a:Tm)(b:Int):Option (Int):=if b==1 then if a.k==3 then some 1 else if a.k==4 then some 1 else some 0 else some 0
theorem yDS{c a b}:Cz (zUh c a b) 125 [] [yZ a,ai b] (λr=>ai r) (λ_=>[]) 0:=fw func125<|rB 0 (rB 1 (fE 0)<|rB 1 (fE 0)<|fE 0)<|fE 0
mutual def e95:Nat->Tm->Int->Option (Int)|0,_,_=>none|d+1,a,c=>if a.k==1 then some (kM 0 (xC ((xC (a.n+1))-c)))else Q5 d a c 0 0 def Q5:Nat->Tm->Int->Int->Int->Option (Int)|0,_,_,_,_=>none|d+1,a,c,b,e=>if decide (b<(a.sub.length:Int))then zS a.sub b>>=λx3=>zUh d a b>>=λr5=>e95 d x3 (xC (c+r5))>>=λr7=>Q5 d a c (xC (b+1)) (kM e r7)else some e end
theorem zNO:∀d:Nat,(∀a c,Cz (e95 d a c) 95 [] [yZ a,ai c] (λr=>ai r) (λ_=>[]) 0)/\(∀a c b e,Lz (Q5 d a c b e) 0 f95 (pt 16309 f95) (λj=>sp j 36 0 [(1,ai c),(2,.mp 0 0),(5,ai e),(18,zN zA a.sub .no),(19,ai (a.sub.length:Int)),(20,ai b)]) ⟨[(0,.cells [ai a.k,ai a.n,zN zA a.sub .no])],1,[],0,[]⟩ (λr=>ai r) (λ_=>[]) 0 [.blk 0,.seq (pt 255 f95)]):=xX ⟨λ_ _=>cN,λ_ _ _ _=>lN⟩ λd ih=>⟨λa c=>fw func95<|rB 1 (fE 4)<|fH 2 [] [0] [] [1,2,5,18,19,20] (ih.2 _ _ _ _),λa c b e=>lw λ_=>rB 0 (rA 0 (xP (o:=.no)) λ_=>rC 4 [] yDS λ_=>rC 1 [] (ih.1 _ _) λ_=>lH 2 [] [0] [] [1,2,5,18,19,20] (ih.2 _ _ _ _))<|lE 0⟩
theorem c95{d a c}:Cz (e95 d a c) 95 [] [yZ a,ai c] (λr=>ai r) (λ_=>[]) 0:=(zNO _).1 _ _
mutual def e98:Nat->Tm->Int->Int->Option yD|0,_,_,_=>none|e+1,a,b,c=>if a.k==b then yX 8 ([]:yD) [a.n]>>=λl2=>gE e a b c 0 l2 else if a.k==c then yX 8 ([]:yD) [a.n]>>=λl5=>gE e a b c 0 l5 else gE e a b c 0 []def gE:Nat->Tm->Int->Int->Int->yD->Option yD|0,_,_,_,_,_=>none|e+1,a,b,c,d,f=>if decide (d<(a.sub.length:Int))then zS a.sub d>>=λx5=>e98 e x5 b c>>=λr7=>yX 8 f r7>>=λl9=>gE e a b c (xC (d+1)) l9 else some f end
theorem zNP:∀e:Nat,(∀a b c,Cz (e98 e a b c) 98 [] [yZ a,ai b,ai c] (λr=>zN zZ r (.st 0 1)) (λ_=>[]) 1)/\(∀a b c d f,Lz (gE e a b c d f) 0 f98 (pt 16309 f98) (λj=>sp j 40 0 [(1,ai b),(2,ai c),(7,zN zZ f (.st 0 1)),(26,zN zA a.sub .no),(27,ai (a.sub.length:Int)),(28,ai d)]) ⟨[],0,[0],1,[]⟩ (λr=>zN zZ r (.st 0 1)) (λ_=>[]) 1 [.blk 0,.seq (pt 255 f98)]/\Lz (gE e a b c d f) 0 f98 (pt 16309 f98) (λj=>sp j 40 0 [(1,ai b),(2,ai c),(7,zN zZ f .nl),(26,zN zA a.sub .no),(27,ai (a.sub.length:Int)),(28,ai d)]) ⟨[],0,[],0,[]⟩ (λr=>zN zZ r (.st 0 1)) (λ_=>[]) 1 [.blk 0,.seq (pt 255 f98)]):=xX ⟨λ_ _ _=>cN,λ_ _ _ _ _=>⟨lN,lN⟩⟩ λe ih=>⟨λa b c=>fw func98<|rB 1 (rW (λh3=>oP 2 (qO h3 (by simp))) λ_=>fH 2 [] [] [0] [1,2,7,26,27,28] ((ih.2 _ _ _ _ _).1))<|rB 1 (rW (λh6=>oP 2 (qO h6 (by simp))) λ_=>fH 2 [] [] [0] [1,2,7,26,27,28] ((ih.2 _ _ _ _ _).1))<|fH 2 [] [] [] [1,2,7,26,27,28] ((ih.2 _ _ _ _ _).2),λa b c d f=>⟨lw λ_=>rB 0 (rA 0 (xP (o:=.no)) λ_=>rC 3 [] (ih.1 _ _ _) λr7=>rH λ_ h10=>rZ (List.length r7=0) (λh11=>rS (oP 0 (zLd h10 h11))<|lH 1 [] [] [0] [1,2,7,26,27,28] ((ih.2 _ _ _ _ _).1)) λh11=>rS (oP 0 (qO h10 h11))<|lH 1 [] [] [2] [1,2,7,26,27,28] ((ih.2 _ _ _ _ _).1))<|lG 0 [] [] [0] true,lw λ_=>rB 0 (rA 0 (xP (o:=.no)) λ_=>rC 3 [] (ih.1 _ _ _) λr7=>rH λ_ h10=>rZ (List.length r7=0) (λh11=>rS (oP 0 (zLd h10 h11))<|lH 1 [] [] [] [1,2,7,26,27,28] ((ih.2 _ _ _ _ _).2)) λh11=>rS (oP 0 (qO h10 h11))<|lH 1 [] [] [1] [1,2,7,26,27,28] ((ih.2 _ _ _ _ _).1))<|lG 0 [(none,6,1)] [] [0] true⟩⟩
theorem c98{e a b c}:Cz (e98 e a b c) 98 [] [yZ a,ai b,ai c] (λr=>zN zZ r (.st 0 1)) (λ_=>[]) 1:=(zNP _).1 _ _ _
def e96(c:Nat)(a:Tm):Option yD:=(cG c a)>>=λr1=>if r1=true then(e98 c a 6 7)>>=λr4=>if decide (List.length r4<4611686018427387904)=true then some (vI r4)else none else some []
theorem yDT{c:Nat}{a:Tm}{r:yD}(h:e96 c a=some r):CT prog 96 [] [yZ a] (.sl (zC zZ r) r.length .no) [] 0:=by
 unfold e96 at h;obtain⟨r1,h2,h⟩:=wS h;rcases zAq r1 with h3|h3
 ·replace h:=ifT h3 h;obtain⟨l,h5,h⟩:=wS h;rcases zAq (decide (List.length l<4611686018427387904))with h6|h6
  ·replace h:=ifT h6 h;replace h:=Option.some.inj h;subst h;subst h3;have hsz:List.length l<4611686018427387904:=by simpa using h6
   refine⟨?_,⟨⟨trivial,trivial,⟨trivial,dT _⟩,trivial⟩,trivial⟩,(λ_ h=>nomatch h),dI _,(λ_ h=>nomatch h)⟩;have k0:knd (tT f96)=1:=by kernel_rfl
   have k1:knd (uR (tT f96))=1:=by kernel_rfl
   have k2:knd (uR (uR (tT f96)))=1:=by kernel_rfl
   have k3:I4 (mJ (uR (uR (tT f96))))=true:=by kernel_rfl
   have k4:zEf (vG (mJ (uR (uR (tT f96)))))[2]?=some (some 8,97,#[.tmp 7]):=by kernel_rfl
   have k5:(f97.name=="runtime.NumGoroutine")=false:=by kernel_rfl
   have k6:f97.body.isNone=false:=by kernel_rfl
   have x1:pU prog qU 3000 (.run (mJ (tT f96))) [] ([yZ a]++List.replicate (f96.ntmps-1) (.val undef)) (A3 []) []=some (.fin .normal,[yZ a,.mp 0 0,.sl [] 0 .nl,.val undef,.val undef,.val undef,.val undef,.val undef,.val undef],⟨[(0,.cells (P5 a))],1,[],0,[]⟩,[],[]):=by kernel_rfl
   have x2:pU prog qU 3000 (.run (mJ (uR (tT f96)))) [] [yZ a,.mp 0 0,.sl [] 0 .nl,.val undef,.val undef,.val undef,.val undef,.val undef,.val undef] ⟨[(0,.cells (P5 a))],1,[],0,[]⟩ [.no,.call [] [] 0 (ab true) (some true),.no]=some (.fin .normal,[yZ a,.mp 0 0,.sl [] 0 .nl,yZ a,ab true,ab false,.val undef,.val undef,.val undef],⟨[(0,.cells (P5 a))],1,[],0,[]⟩,[],[.bit true true,.call 93 [] [yZ a] (ab true) [] 0]):=by kernel_rfl
   have x3:(aD prog qU (vG (mJ (uR (uR (tT f96))))) ((vG (mJ (uR (uR (tT f96))))).toList.take 2) 0 [yZ a,.mp 0 0,.sl [] 0 .nl,yZ a,ab true,ab false,.val undef,.val undef,.val undef] ⟨[(0,.cells (P5 a))],1,[],0,[]⟩ [.no,.call [] [] 1 (.sl (zC zZ l) l.length (.st 0 1)) none]).map Prod.snd=some ([yZ a,.mp 0 0,.sl [] 0 .nl,yZ a,ab true,ab false,yZ a,.sl (zC zZ l) l.length (.st 0 1),.val undef],⟨[(0,.cells (P5 a))],1,[0],1,[]⟩,[],[.call 98 [] [yZ a,ai 6,ai 7] (.sl (zC zZ l) l.length (.st 0 1)) [] 1]):=by kernel_rfl
   have x4:∀j:Nat->Value,(aD prog qU (vG (mJ (uR (uR (tT f96))))) ((vG (mJ (uR (uR (tT f96))))).toList.drop 3) 3 (eset (tells [] (mutEnv [] j [yZ a,.mp 0 0,.sl [] 0 .nl,yZ a,ab true,ab false,yZ a,.sl (zC zZ l) l.length (.st 0 1),.val undef] 0)) (some 8) (.sl (zC zZ (vI l)) (vI l).length .no)) (mK [] ⟨[(0,.cells (P5 a))],1,[0],1,[]⟩) []).map Prod.snd=some ([.val (j 0),.val (j 1),.sl (zC zZ (vI l)) (vI l).length .no,.val (j 3),ab true,ab false,.val (j 6),.val (j 7),.sl (zC zZ (vI l)) (vI l).length .no],⟨[],1,[],0,[]⟩,[],[]):=λj=>by kernel_rfl
   have x5:∀j:Nat->Value,Z4 prog qU 0 f96 3000 (.run (uR (uR (uR (tT f96))))) [] [.val (j 0),.val (j 1),.sl (zC zZ (vI l)) (vI l).length .no,.val (j 3),ab true,ab false,.val (j 6),.val (j 7),.sl (zC zZ (vI l)) (vI l).length .no] ⟨[],1,[],0,[]⟩ [] [] [] [] false=some (.sl (zC zZ (vI l)) (vI l).length .no,[],[.data (zC zZ (vI l))]):=λj=>by kernel_rfl
   refine uS.body func96 (by kernel_rfl) ?_;refine Dv.seqP k0 ?_;refine nM (Q:=_) wV mixed 3000 (.run (mJ (tT f96))) [] _ _ _ _ _ _ _ _ x1 yV.nil ?_;refine Dv.seqP k1 ?_;refine nM (Q:=_) wV mixed 3000 (.run (mJ (uR (tT f96)))) [] _ _ _ _ _ _ _ _ x2 (yV.cons (zLh rfl) (yV.cons (eF (aR _ h2)) yV.nil)) ?_;refine Dv.seqP k2 ?_;obtain⟨id,k7⟩:=zUz k3;rw[k7];refine Dv.mut wV (na:=(0:Nat)) rfl 2 [] [] _ x3 (yV.cons (eF (c98 _ h5)) yV.nil) k4 func97 k5 k6 (λi X h=>by cases h) ?_ x4 yV.nil ?_;·intro G0 W hB G w hE hR u hu;refine(zCK hR (by rfl) hsz hu).mono ?_;rintro e w'⟨v,b,S,z1,z2,z3,z4,z5,z6⟩;exact⟨v,b,S,z1,z2,z3,z4,z5,λG' _ _ hS=>⟨z6 G' hS,λq hq=>by cases hq⟩⟩
   ·intro j;exact I1 (na:=(0:Nat)) wV mixed (x5 j) (yV.cons (i9 (dI _)) yV.nil) (by decide)
  ·replace h:=ifF h6 h;cases h
 ·replace h:=ifF h3 h;replace h:=Option.some.inj h;subst h;exact⟨uS.toFin wV mixed func96 (by kernel_rfl) 3000 [.no,.call [] [] 0 (ab r1) (some false),.no] [] [] [] false (by kernel_rfl) (yV.cons (zLh h3) (yV.cons (eF (aR _ h2)) (yV.cons (i9 (dI ([]:yD))) yV.nil))) (by decide),⟨⟨trivial,trivial,⟨trivial,dT _⟩,trivial⟩,trivial⟩,(λ_ h=>nomatch h),dI _,(λ_ h=>nomatch h)⟩
theorem c96{c:Nat}{a:Tm}:Cz (e96 c a) 96 [] [yZ a] (λr=>.sl (zC zZ r) r.length .no) (λ_=>[]) 0:=λ_ h=>yDT h
def e68(b:Nat)(a:Tm)(c d:Int):Option (Bool):=cG b a>>=λr1=>if r1 then e95 b a 0>>=λr4=>if decide (r4>c)then some false else e96 b a>>=λr7=>if(r7.length:Int)==0 then some true else zS r7 (xC ((r7.length:Int)-1))>>=λx10=>some (decide (x10<d))else some false
theorem c68{b a c d}:Cz (e68 b a c d) 68 [] [yZ a,ai c,ai d] (λr=>ab r) (λ_=>[]) 0:=fw func68<|rK 1 [] aR (λ_=>rC 2 [] c95 λ_=>rB 0 (fE 0)<|rC 1 [] c96 λ_=>rB 1 (fE 0)<|rA 2 (oV (o:=.no)) λ_=>fE 2) λ_=>fE 1
def e69(c:Nat)(a:Tm):Option yD:=(cG c a)>>=λr1=>if r1=true then(e98 c a 8 8)>>=λr4=>if decide (List.length r4<4611686018427387904)=true then some (vI r4)else none else some []
theorem yDU{c:Nat}{a:Tm}{r:yD}(h:e69 c a=some r):CT prog 69 [] [yZ a] (.sl (zC zZ r) r.length .no) [] 0:=by
 unfold e69 at h;obtain⟨r1,h2,h⟩:=wS h;rcases zAq r1 with h3|h3
 ·replace h:=ifT h3 h;obtain⟨l,h5,h⟩:=wS h;rcases zAq (decide (List.length l<4611686018427387904))with h6|h6
  ·replace h:=ifT h6 h;replace h:=Option.some.inj h;subst h;subst h3;have hsz:List.length l<4611686018427387904:=by simpa using h6
   refine⟨?_,⟨⟨trivial,trivial,⟨trivial,dT _⟩,trivial⟩,trivial⟩,(λ_ h=>nomatch h),dI _,(λ_ h=>nomatch h)⟩;have k0:knd (tT f69)=1:=by kernel_rfl
   have k1:knd (uR (tT f69))=1:=by kernel_rfl
   have k2:knd (uR (uR (tT f69)))=1:=by kernel_rfl
   have k3:I4 (mJ (uR (uR (tT f69))))=true:=by kernel_rfl
   have k4:zEf (vG (mJ (uR (uR (tT f69)))))[2]?=some (some 8,97,#[.tmp 7]):=by kernel_rfl
   have k5:(f97.name=="runtime.NumGoroutine")=false:=by kernel_rfl
   have k6:f97.body.isNone=false:=by kernel_rfl
   have x1:pU prog qU 3000 (.run (mJ (tT f69))) [] ([yZ a]++List.replicate (f69.ntmps-1) (.val undef)) (A3 []) []=some (.fin .normal,[yZ a,.mp 0 0,.sl [] 0 .nl,.val undef,.val undef,.val undef,.val undef,.val undef,.val undef],⟨[(0,.cells (P5 a))],1,[],0,[]⟩,[],[]):=by kernel_rfl
   have x2:pU prog qU 3000 (.run (mJ (uR (tT f69)))) [] [yZ a,.mp 0 0,.sl [] 0 .nl,.val undef,.val undef,.val undef,.val undef,.val undef,.val undef] ⟨[(0,.cells (P5 a))],1,[],0,[]⟩ [.no,.call [] [] 0 (ab true) (some true),.no]=some (.fin .normal,[yZ a,.mp 0 0,.sl [] 0 .nl,yZ a,ab true,ab false,.val undef,.val undef,.val undef],⟨[(0,.cells (P5 a))],1,[],0,[]⟩,[],[.bit true true,.call 93 [] [yZ a] (ab true) [] 0]):=by kernel_rfl
   have x3:(aD prog qU (vG (mJ (uR (uR (tT f69))))) ((vG (mJ (uR (uR (tT f69))))).toList.take 2) 0 [yZ a,.mp 0 0,.sl [] 0 .nl,yZ a,ab true,ab false,.val undef,.val undef,.val undef] ⟨[(0,.cells (P5 a))],1,[],0,[]⟩ [.no,.call [] [] 1 (.sl (zC zZ l) l.length (.st 0 1)) none]).map Prod.snd=some ([yZ a,.mp 0 0,.sl [] 0 .nl,yZ a,ab true,ab false,yZ a,.sl (zC zZ l) l.length (.st 0 1),.val undef],⟨[(0,.cells (P5 a))],1,[0],1,[]⟩,[],[.call 98 [] [yZ a,ai 8,ai 8] (.sl (zC zZ l) l.length (.st 0 1)) [] 1]):=by kernel_rfl
   have x4:∀j:Nat->Value,(aD prog qU (vG (mJ (uR (uR (tT f69))))) ((vG (mJ (uR (uR (tT f69))))).toList.drop 3) 3 (eset (tells [] (mutEnv [] j [yZ a,.mp 0 0,.sl [] 0 .nl,yZ a,ab true,ab false,yZ a,.sl (zC zZ l) l.length (.st 0 1),.val undef] 0)) (some 8) (.sl (zC zZ (vI l)) (vI l).length .no)) (mK [] ⟨[(0,.cells (P5 a))],1,[0],1,[]⟩) []).map Prod.snd=some ([.val (j 0),.val (j 1),.sl (zC zZ (vI l)) (vI l).length .no,.val (j 3),ab true,ab false,.val (j 6),.val (j 7),.sl (zC zZ (vI l)) (vI l).length .no],⟨[],1,[],0,[]⟩,[],[]):=λj=>by kernel_rfl
   have x5:∀j:Nat->Value,Z4 prog qU 0 f69 3000 (.run (uR (uR (uR (tT f69))))) [] [.val (j 0),.val (j 1),.sl (zC zZ (vI l)) (vI l).length .no,.val (j 3),ab true,ab false,.val (j 6),.val (j 7),.sl (zC zZ (vI l)) (vI l).length .no] ⟨[],1,[],0,[]⟩ [] [] [] [] false=some (.sl (zC zZ (vI l)) (vI l).length .no,[],[.data (zC zZ (vI l))]):=λj=>by kernel_rfl
   refine uS.body func69 (by kernel_rfl) ?_;refine Dv.seqP k0 ?_;refine nM (Q:=_) wV mixed 3000 (.run (mJ (tT f69))) [] _ _ _ _ _ _ _ _ x1 yV.nil ?_;refine Dv.seqP k1 ?_;refine nM (Q:=_) wV mixed 3000 (.run (mJ (uR (tT f69)))) [] _ _ _ _ _ _ _ _ x2 (yV.cons (zLh rfl) (yV.cons (eF (aR _ h2)) yV.nil)) ?_;refine Dv.seqP k2 ?_;obtain⟨id,k7⟩:=zUz k3;rw[k7];refine Dv.mut wV (na:=(0:Nat)) rfl 2 [] [] _ x3 (yV.cons (eF (c98 _ h5)) yV.nil) k4 func97 k5 k6 (λi X h=>by cases h) ?_ x4 yV.nil ?_;·intro G0 W hB G w hE hR u hu;refine(zCK hR (by rfl) hsz hu).mono ?_;rintro e w'⟨v,b,S,z1,z2,z3,z4,z5,z6⟩;exact⟨v,b,S,z1,z2,z3,z4,z5,λG' _ _ hS=>⟨z6 G' hS,λq hq=>by cases hq⟩⟩
   ·intro j;exact I1 (na:=(0:Nat)) wV mixed (x5 j) (yV.cons (i9 (dI _)) yV.nil) (by decide)
  ·replace h:=ifF h6 h;cases h
 ·replace h:=ifF h3 h;replace h:=Option.some.inj h;subst h;exact⟨uS.toFin wV mixed func69 (by kernel_rfl) 3000 [.no,.call [] [] 0 (ab r1) (some false),.no] [] [] [] false (by kernel_rfl) (yV.cons (zLh h3) (yV.cons (eF (aR _ h2)) (yV.cons (i9 (dI ([]:yD))) yV.nil))) (by decide),⟨⟨trivial,trivial,⟨trivial,dT _⟩,trivial⟩,trivial⟩,(λ_ h=>nomatch h),dI _,(λ_ h=>nomatch h)⟩
theorem c69{c:Nat}{a:Tm}:Cz (e69 c a) 69 [] [yZ a] (λr=>.sl (zC zZ r) r.length .no) (λ_=>[]) 0:=λ_ h=>yDU h
theorem J8(a b:Int):kM a b=max a b:=by unfold kM;split<;>omega
theorem uB{k n:Int}{l:List Tm}(h:xQ (.mk k n l)=true):rP (.mk k n l)=true/\vS l=true:=by rw[xQ]at h;simpa using h
theorem wU{t:Tm}{l:List Tm}(h:vS (t::l)=true):xQ t=true/\vS l=true:=by rw[vS]at h;simpa using h
theorem jH{k n:Int}{l:List Tm}(h:rP (.mk k n l)=true):0<=n/\n<=1048576/\1<=k/\k<=8/\l.length<=2:=by have:=tR h;exact⟨this.2.2.1,this.2.2.2.1,this.1,this.2.1,this.2.2.2.2.1⟩
mutual theorem pB:∀t:Tm,xQ t=true->t.Ok|.mk k n l,h=>by have h1:=uB h;rw[Tm.Ok];exact⟨by have:=(jH h1.1).2.2.2.2;omega,zGD l h1.2⟩theorem zGD:∀l:List Tm,vS l=true->mW l|[],_=>by rw[mW];trivial|t::l,h=>by have:=wU h;rw[mW];exact⟨pB t this.1,zGD l this.2⟩end
mutual theorem zUg:∀(t:Tm)(b:Int),0<=kO t b
 |.mk k n l,b=>by
  rw[kO];split;·omega
  ·exact zEF l k 0 b theorem zEF:∀(l:List Tm)(k:Int)(i:Nat)(b:Int),0<=fL l k i b|[],k,i,b=>by rw[fL];omega|t::l,k,i,b=>by rw[fL];have:=zUg t (b+B6 k i);omega end
theorem zQN(t:Tm)(i:Nat):zF (λq=>zUh q t (i:Int)) (B6 t.k i):=by
 refine zF.mk λq=>?_;simp only[zUh,B6];by_cases h1:i=1;·subst h1;simp;by_cases h3:t.k=3<;>by_cases h4:t.k=4<;>simp[h3,h4]
 ·have:¬((i:Int)=1):=by omega
  simp[h1,this]
theorem zLF(k:Int)(i:Nat):0<=B6 k i/\B6 k i<=1:=by unfold B6;split<;>omega
mutual theorem J9:∀(t:Tm)(b:Int),xQ t=true->0<=b->b+t.high<=4611686018427387904->zF (λq=>e95 q t b) (kO t b)
 |.mk k n l,b,hg,h0,h1=>by
  refine zF.succ ?_;simp only[e95,Tm.k,Tm.n];have hh:=uB hg;have hn:=jH hh.1;rw[kO];by_cases hk:k=1
  ·rw[if_pos hk];rw[Tm.high]at h1;refine zF.ifT (by simpa using hk) (zF.ret.eq ?_);rw[yS (x:=n+1) (by omega) (by omega),yS (by omega) (by omega),J8]
  ·rw[if_neg hk];refine zF.ifF (by simpa using hk) ?_;rw[Tm.high]at h1;exact(zCV l (.mk k n l) 0 b 0 rfl (by have:=hn.2.2.2.2;simp only[Tm.sub];omega) hh.2 h0 (by omega) (by omega)).eq (by have:=zEF l k 0 b;simp only[Tm.k];omega)theorem zCV:∀(l:List Tm)(p:Tm)(v:Nat)(b m:Int),p.sub.drop v=l->p.sub.length<9223372036854775808->vS l=true->0<=b->0<=m->b+1+uH l<=4611686018427387904->zF (λq=>Q5 q p b (v:Int) m) (max m (fL l p.k v b))|[],p,v,b,m,hd,hl,ho,h0,hm,h1=>by refine zF.succ ?_;simp only[Q5];rw[fL];exact zF.ifF (zY hd) (zF.ret.eq (by omega))|t::l,p,v,b,m,hd,hl,ho,h0,hm,h1=>by refine zF.succ ?_;simp only[Q5];have hg:=wU ho;have hu:=zLF p.k v;rw[uH]at h1;refine zF.ifT (zX hd) (zF.pure (zV hd) ((zQN p v).bind ?_));rw[yS (x:=b+B6 p.k v) (by omega) (by omega)];refine(J9 t (b+B6 p.k v) hg.1 (by omega) (by omega)).bind ?_;rw[zU v (by have:=yC hd;omega),J8];refine(zCV l p (v+1) b _ (zR hd) hl hg.2 h0 (by omega) (by omega)).eq ?_;rw[fL];omega end
mutual theorem nP:∀(t:Tm)(a b:Int),(sF t a b).length<=t.nodes|.mk k n l,a,b=>by rw[sF,Tm.nodes];have:=zGE l a b;split<;>simp<;>omega theorem zGE:∀(l:List Tm)(a b:Int),(gD l a b).length<=yW l|[],a,b=>by rw[gD,yW];simp|t::l,a,b=>by rw[gD,yW];have:=nP t a b;have:=zGE l a b;simp;omega end
mutual theorem B7:∀(t:Tm)(a b:Int),t.Ok->t.nodes<=8192->zF (λq=>e98 q t a b) (sF t a b)
 |.mk k n l,a,b,ho,hn=>by
  refine zF.succ ?_;simp only[e98,Tm.k,Tm.n];rw[sF];rw[Tm.nodes]at hn;by_cases ha:k=a
  ·refine zF.ifT (by simpa using ha) (zF.pure (yF (by simp)) ?_);rw[if_pos (.inl ha)];exact kY l (.mk k n l) 0 a b [n] rfl ho.1 ho.2 (by simp;omega)
  ·refine zF.ifF (by simpa using ha) ?_;by_cases hb:k=b;·refine zF.ifT (by simpa using hb) (zF.pure (yF (by simp)) ?_);rw[if_pos (.inr hb)];exact kY l (.mk k n l) 0 a b [n] rfl ho.1 ho.2 (by simp;omega)
   ·refine zF.ifF (by simpa using hb) ?_;rw[if_neg (by simp[ha,hb])];exact kY l (.mk k n l) 0 a b [] rfl ho.1 ho.2 (by simp;omega)theorem kY:∀(l:List Tm)(p:Tm)(v:Nat)(a b:Int)(m:List Int),p.sub.drop v=l->p.sub.length<9223372036854775808->mW l->m.length+yW l<=8192->zF (λq=>gE q p a b (v:Int) m) (m++gD l a b)|[],p,v,a,b,m,hd,hl,ho,hn=>by refine zF.succ ?_;simp only[gE];rw[gD];exact zF.ifF (zY hd) (zF.ret.eq (by simp))|t::l,p,v,a,b,m,hd,hl,ho,hn=>by refine zF.succ ?_;simp only[gE];rw[yW]at hn;have hc:=nP t a b;refine zF.ifT (zX hd) (zF.pure (zV hd) ((B7 t a b ho.1 (by omega)).bind (zF.pure (yF (by omega)) ?_)));rw[zU v (by have:=yC hd;omega)];refine(kY l p (v+1) a b _ (zR hd) hl ho.2 (by simp;omega)).eq ?_;rw[gD];simp end
theorem zL{t:Tm}(h:zG t=true):t.nodes<=8192/\t.high<=128/\xQ t=true:=by unfold zG at h;simp at h;exact⟨h.1.1,h.1.2,h.2⟩
def mS(t:Tm)(a b:Int):List Int:=if zG t=true then vI (sF t a b)else[]
theorem kA(t:Tm)(ho:t.Ok):zF (λq=>e69 q t) (mS t 8 8):=by
 simp only[e69];refine(xM t ho).bind ?_;unfold mS;by_cases h:zG t=true;·have hs:=zL h;have:=nP t 8 8;rw[if_pos h];refine zF.ifT h ((B7 t 8 8 ho hs.1).bind (zF.mk λq=>?_));rw[if_pos (by simp;omega)]
 ·rw[if_neg h];exact zF.ifF (by simpa using h) zF.ret
theorem zJD(t:Tm)(ho:t.Ok):zF (λq=>e96 q t) (mS t 6 7):=by
 simp only[e96];refine(xM t ho).bind ?_;unfold mS;by_cases h:zG t=true;·have hs:=zL h;have:=nP t 6 7;rw[if_pos h];refine zF.ifT h ((B7 t 6 7 ho hs.1).bind (zF.mk λq=>?_));rw[if_pos (by simp;omega)]
 ·rw[if_neg h];exact zF.ifF (by simpa using h) zF.ret
theorem zAo(x:Int):∀l:List Int,x∈uP l↔x∈l
 |[]=>by simp[uP]|[y]=>by simp[uP]|y::z::l=>by
  rw[nC];have:=zAo x (z::l);split;·subst_vars;rw[this];simp
  ·rw[List.mem_cons,this];simp
theorem qX(x:Int)(l:List Int):x∈vI l↔x∈l:=by unfold vI;rw[zAo];exact(lV l).mem_iff
theorem X1:∀l:List Int,l.Pairwise (·<=·)->(uP l).Pairwise (·<=·)
 |[],_=>by simp[uP]|[y],_=>by simp[uP]|y::z::l,h=>by
  rw[nC];have h2:=X1 (z::l) (List.pairwise_cons.1 h).2;split;·exact h2
  ·refine List.pairwise_cons.2 ⟨λw hw=>?_,h2⟩;exact(List.pairwise_cons.1 h).1 w ((zAo w _).1 hw)
theorem zGF(l:List Int):(vI l).Pairwise (·<=·):=X1 _ (iZ l)
theorem zGG:∀(l:List Int)(h:l≠[]),l.Pairwise (·<=·)->∀x∈l,x<=l.getLast h
 |[y],_,_,x,hx=>by simp at hx;simp[hx]|y::z::l,_,hp,x,hx=>by
  rw[List.getLast_cons (by simp)];have h2:=List.pairwise_cons.1 hp;rcases List.mem_cons.1 hx with rfl|hx;·exact h2.1 _ (List.getLast_mem _)
  ·exact zGG (z::l) (by simp) h2.2 x hx
def qA(t:Tm)(f n:Int):Bool:=zG t&&decide (kO t 0<=f)&&(sF t 6 7).all λx=>decide (x<n)
theorem kB(t:Tm)(f n:Int)(ho:t.Ok):zF (λq=>e68 q t f n) (qA t f n):=by
 simp only[e68];refine(xM t ho).bind ?_;unfold qA;by_cases h:zG t=true
 ·have hs:=zL h;have hlen:=nP t 6 7;refine zF.ifT h ((J9 t 0 hs.2.2 (by omega) (by omega)).bind ?_);rw[h];by_cases h2:kO t 0>f;·exact zF.ifT (by simpa using h2) (zF.ret.eq (by simp;omega))
  ·refine zF.ifF (by simpa using h2) ((zJD t ho).bind ?_);have h2':decide (kO t 0<=f)=true:=by simp;omega
   rw[h2'];unfold mS;rw[if_pos h];have hr:=nW (sF t 6 7);by_cases h3:vI (sF t 6 7)=[]
   ·refine zF.ifT (by rw[h3];rfl) (zF.ret.eq ?_);symm;simp only[Bool.true_and,List.all_eq_true];intro x hx;rw[<-qX,h3]at hx;cases hx
   ·have hpos:0<(vI (sF t 6 7)).length:=List.length_pos_iff.2 h3;refine zF.ifF (by simp;omega) (zF.pure (a:=(vI (sF t 6 7)).getLast h3) ?_ (zF.ret.eq ?_))
    ·rw[yS (by omega) (by omega)];unfold zS;rw[if_pos (by omega),List.getLast_eq_getElem,show((vI (sF t 6 7)).length-1:Int).toNat=(vI (sF t 6 7)).length-1 by omega];exact List.getElem?_eq_getElem _
    ·have hm:=zGG _ h3 (zGF _);rw[Bool.eq_iff_iff];simp only[decide_eq_true_eq,Bool.true_and,List.all_eq_true];constructor
     ·intro h4 x hx;have:=hm x ((qX x _).2 hx);omega
     ·intro h4;exact h4 _ ((qX _ _).1 (List.getLast_mem h3))
 ·exact zF.ifF (by simpa using h) (zF.ret.eq (by simp[h]))
def sP:Nat->yU->Int->Int->yU->Option yU|0,_,_,_,_=>none|f+1,e,g,m,d=>if decide (g<m)then oT e.length m>>=λx2=>zS d (x2:Int)>>=λx4=>oT e.length g>>=λx6=>zS d (x6:Int)>>=λx8=>jF d x6 x4>>=λx10=>jF x10 x2 x8>>=λx12=>sP f e (xC (g+1)) (xC (m-1)) x12 else some d
def kC(f:Nat)(e:yU):Option yU:=sP f e 0 (xC ((e.length:Int)-1)) e
theorem zGH:∀f:Nat,∀e g m d,Lz (sP f e g m d) 1 f141 (pt 53 f141) (λj=>sp j 28 0 [(0,.ms 0 0 e.length e.length 3),(2,ai g),(3,ai m)]) ⟨[(0,.row (zC zA d))],1,[],0,[]⟩ (λ_=>.tup []) (λr=>[.row (zC zA r)]) 0 [.blk 0]:=xX (λ_ _ _ _=>lN) λf ih=>λe g m d=>lw λ_=>rB 0 (rH λ_ h3=>rS (oA 0 (zCR (b:=0) (c:=List.length e) (z:=3) h3))<|rH λx4 h5=>rS (oG (a:=(.agg [ai x4.k,ai x4.n,zN zA x4.sub .no])) 0 (ldE uW h5 (true,3) (val:=.agg [ai x4.k,ai x4.n,zN zA x4.sub .no]) (by rw[xY];rfl)))<|rH λ_ h7=>rS (oA 0 (zCR (b:=0) (c:=List.length e) (z:=3) h7))<|rH λx8 h9=>rS (oG (a:=(.agg [ai x8.k,ai x8.n,zN zA x8.sub .no])) 0 (ldE uW h9 (true,3) (val:=.agg [ai x8.k,ai x8.n,zN zA x8.sub .no]) (by rw[xY];rfl)))<|rS (oA 0 (zCR (b:=0) (c:=List.length e) (z:=3) h7))<|rW (λh11=>oW 0 (wtE (x:=x4) (cs:=[ai x4.k,ai x4.n,zN zA x4.sub .no]) uW (by rw[xY];rfl) h11)) λ_=>rS (oA 0 (zCR (b:=0) (c:=List.length e) (z:=3) h3))<|rW (λh13=>oW 0 (wtE (x:=x8) (cs:=[ai x8.k,ai x8.n,zN zA x8.sub .no]) uW (by rw[xY];rfl) h13)) λ_=>lH 2 [] [0] [] [0,2,3] (ih _ _ _ _))<|lE 0
theorem zAn{f e}:Cz (kC f e) 141 [.row (zC zA e)] [.ms 0 0 e.length e.length 3] (λ_=>.tup []) (λr=>[.row (zC zA r)]) 0:=fw func141<|fH 2 [] [0] [] [0,2,3] (zGH _ _ _ _ _)
def tU:Nat->Tm->yU->Int->Int->yU->Option ((Tm×yU)⊕(yU×Tm))|0,_,_,_,_,_=>none|f+1,d,a,c,e,b=>if c==5 then if(b.length:Int)==2 then if decide ((a.length:Int)>=8192)then some (Sum.inl (d,[]))else zS b 1>>=λx4=>yX 40 a [x4]>>=λl6=>zS b 0>>=λx8=>tU f d l6 x8.k x8.n x8.sub else kC f a>>=λr10=>I9 a.length r10>>=λl12=>some (Sum.inr (l12,(Tm.mk c e b)))else kC f a>>=λr14=>I9 a.length r14>>=λl16=>some (Sum.inr (l16,(Tm.mk c e b)))
def B8(f:Nat)(d:Tm):Option ((Tm×yU)⊕(yU×Tm)):=tU f d ([]:yU) d.k d.n d.sub
def zAm(j:Nat->Value)(d:Tm)(a:yU)(c e:Int)(b:yU):=sp j 35 0 [(1,.mp 0 0),(2,.mp 1 0),(4,.ms 2 0 a.length a.length 3),(5,.mp 3 0)]
def zAl(d:Tm)(a:yU)(c e:Int)(b:yU):xB:=⟨[(0,.cells [ai d.k,ai d.n,zN zA d.sub .no]),(1,.cells [ai 0,ai 0,.ms 4 0 (List.length ([]:yU)) (List.length ([]:yU)) 3]),(2,.row (zC zA a)),(3,.cells [ai c,ai e,zN zA b .no]),(4,.row (zC zA ([]:yU)))],5,[],0,[]⟩
abbrev zAk(d:Tm)(r:Tm×yU)(C:Cf):Prop:=C 120 [] [yZ d] (.tup [yZ r.1,.sl (zC zA r.2) r.2.length .no]) [] 0
abbrev zAj(d:Tm)(r:yU×Tm)(C:Cf):Prop:=C 120 [] [yZ d] (.tup [yZ r.2,.ms 0 0 r.1.length r.1.length 3]) [.row (zC zA r.1)] 0
theorem zQO:Qf 120 f120:=⟨func120,by kernel_rfl⟩
theorem zQP{d r}(h:zAk d r Ci):zAk d r Ct:=⟨h,⟨⟨tv,tv,⟨tv,dT _⟩,tv⟩,tv⟩,yN,⟨⟨tv,tv,dT _,tv⟩,dT _,tv⟩,yN⟩
theorem zQQ{d r}(h:zAj d r Ci):zAj d r Ct:=⟨h,⟨⟨tv,tv,⟨tv,dT _⟩,tv⟩,tv⟩,yN,⟨⟨tv,tv,dT _,tv⟩,(lz rfl),tv⟩,(yJ (dT _) yN)⟩
theorem K0:∀f:Nat,(∀d a c e b r,tU f d a c e b=some r->(∀j,Dl prog 0 (pt 4069 f120) (zAm j d a c e b) (zAl d a c e b) (vF prog 0 ((match(generalizing:=false)r with|Sum.inl x=>nB prog 0 f120 (.tup [yZ x.1,.sl (zC zA x.2) x.2.length .no]) [] 0|Sum.inr x=>nB prog 0 f120 (.tup [yZ x.2,.ms 0 0 x.1.length x.1.length 3]) [.row (zC zA x.1)] 0)) [.blk 0,.seq (pt 255 f120)]))):=by intro f;induction f with|zero=>exactλ_ _ _ _ _ _ h=>nn h|succ f ih=>
 intro d a c e b r h;rw[tU]at h;rcases w9 h with⟨h1,h⟩|⟨h1,h⟩;have k:=oB 1 h1 o0;rcases w9 h with⟨h2,h⟩|⟨h2,h⟩;have k:=oB 2 h2 k;rcases w9 h with⟨h3,h⟩|⟨h3,h⟩;obtain rfl:=sj h;exactλj=>olF 2 [] (oD (dT ([]:yU))<|oD (dT d.sub)<|oB 1 h3 k);obtain⟨x4,h5,h⟩:=wS h;obtain⟨l6,h7,h⟩:=wS h;obtain⟨x8,h9,h⟩:=wS h;exactλj=>olH 2 [] [0,1,5,3,4] [] [1,2,4,5] (oD (dT ([]:yU))<|oD (dT x8.sub)<|oD (dT l6)<|oD (dT d.sub)<|oA 1 (xP (o:=.no) h9)<|oM 0 (yBk h7 (by simp))<|oS 1 (xJ xY [x4])<|oA 1 (xP (o:=.no) h5)<|oB 1 h3 k) (ih _ _ _ _ _ _ h);obtain⟨r10,h11,h⟩:=wS h;obtain⟨l12,h13,h⟩:=wS h;obtain⟨h13a,h13b⟩:=rG h13;obtain rfl:=sj h;obtain rfl:=h13a.symm;try dsimp only
 rw[<-h13b];exactλj=>olF 2 [2] (oD (dT b)<|oD (dT r10)<|oC 0 [2] (zAn _ h11)<|oB 2 h2 k);obtain⟨r14,h15,h⟩:=wS h;obtain⟨l16,h17,h⟩:=wS h;obtain⟨h17a,h17b⟩:=rG h17;obtain rfl:=sj h;obtain rfl:=h17a.symm;try dsimp only
 rw[<-h17b];exactλj=>olF 2 [2] (oD (dT b)<|oD (dT r14)<|oC 0 [2] (zAn _ h15)<|oB 1 h1 o0)
theorem zUf{f d r}(h:B8 f d=some r):(match(generalizing:=false)r with|Sum.inl x=>zAk d x Ct|Sum.inr x=>zAj d x Ct):=by unfold B8 at h;rcases r with y0|y1;exact zQP (tH zQO 2 [(none,4,4099),(some 1,2,4099)] [0,1,3,2,4] [] [1,2,4,5] (oD (dT ([]:yU))<|oD (dT d.sub)<|oD (dT ([]:yU))<|oD (dT d.sub) o0) (K0 _ _ _ _ _ _ _ h));exact zQQ (tH zQO 2 [(none,4,4099),(some 1,2,4099)] [0,1,3,2,4] [] [1,2,4,5] (oD (dT ([]:yU))<|oD (dT d.sub)<|oD (dT ([]:yU))<|oD (dT d.sub) o0) (K0 _ _ _ _ _ _ _ h))
theorem zUe{f d r}(h:B8 f d=some r):(match(generalizing:=false)r with|Sum.inl x=>CT prog 120 [] [yZ d] (.tup [yZ x.1,.sl (zC zA x.2) x.2.length .no]) [] 0|Sum.inr x=>CT prog 120 [] [yZ d] (.tup [yZ x.2,.sl (zC zA x.1) x.1.length .no]) [] 0):=by
 have k:=zUf h;rcases r with y0|y1;·exact k
 ·exact CT.freeze (H1:=[]) (cs:=zC zA y1.1) (res':=(.tup [yZ y1.2,.sl (zC zA y1.1) y1.1.length .no])) k (Nat.le_of_ble_eq_true rfl) yN (dT _) ⟨⟨trivial,trivial,dT _,tv⟩,(.inl ⟨rfl,rfl⟩),tv⟩ (by rfl) rfl
theorem zYk{f d}:Cz (B8 f d) 120 [] [yZ d] (Sum.elim (λx=>.tup [yZ x.1,.sl (zC zA x.2) x.2.length .no]) (λx=>.tup [yZ x.2,.sl (zC zA x.1) x.1.length .no])) (Sum.elim (λ_=>[]) (λ_=>[])) 0:=λr h=>by have k:=zUe h;rcases r with _|_<;>exact k
def B9(b:Nat)(a:Tm):Option (Tm×yU):=B8 b a>>=λx=>some (Sum.elim id (λy=>(y.2,y.1)) x)
theorem yBI{b:Nat}{a:Tm}{r:Tm×yU}(h:B9 b a=some r):CT prog 120 [] [yZ a] (.tup [yZ r.1,.sl (zC zA r.2) r.2.length .no]) [] 0:=by obtain⟨x,h1,h⟩:=wS h;obtain rfl:=sj h;rcases x with y|y<;>exact zYk _ h1
theorem zGI{b:Nat}{a:Tm}:Cz (B9 b a) 120 [] [yZ a] (λr=>.tup [yZ r.1,.sl (zC zA r.2) r.2.length .no]) (λ_=>[]) 0:=λ_ h=>yBI h
def zGJ(d:Nat)(a b:Int)(c:yU):Option (Tm):=some (Tm.mk a b c)
theorem zJE{d a b c}:Cz (zGJ d a b c) 112 [] [ai a,ai b,zN zA c .no] (λr=>yZ r) (λ_=>[]) 0:=fw func112<|fE 1
def zCo(c:Nat)(a b:Tm):Option (Tm):=zGJ c 5 0 [a,b]>>=λr1=>some r1
theorem zCn{c a b}:Cz (zCo c a b) 230 [] [yZ a,yZ b] (λr=>yZ r) (λ_=>[]) 0:=fw func230<|rS (oS 2 (xJ xY [a,b]))<|rC 0 [] zJE λ_=>fE 1
def cH:Nat->yU->Int->Int->Int->yU->Option (Tm)|0,_,_,_,_,_=>none|e+1,d,f,a,b,c=>if decide (f<(d.length:Int))then zS d f>>=λx2=>zCo e (Tm.mk a b c) x2>>=λr4=>cH e d (xC (f+1)) r4.k r4.n r4.sub else some (Tm.mk a b c)
def aF(e:Nat)(g:Tm)(d:yU):Option (Tm):=cH e d 0 g.k g.n g.sub
theorem zUd:∀e:Nat,∀d f a b c,Lz (cH e d f a b c) 0 f211 (pt 949 f211) (λj=>sp j 18 0 [(2,.mp 0 0),(4,.mp 1 0),(7,zN zA d .no),(8,ai (d.length:Int)),(9,ai f)]) ⟨[(0,.cells [ai a,ai b,zN zA c .no]),(1,.cells [ai 0,ai 0,zN zA ([]:yU) .nl])],2,[],0,[]⟩ (λr=>yZ r) (λ_=>[]) 0 [.blk 0,.seq (pt 15 f211)]:=xX (λ_ _ _ _ _=>lN) λe ih=>λd f a b c=>lw λ_=>rB 0 (rA 0 (xP (o:=.no)) λ_=>rC 4 [] zCn λ_=>lH 2 [] [0,1] [] [2,4,7,8,9] (ih _ _ _ _ _))<|lE 2
theorem Z5{e g d}:Cz (aF e g d) 211 [] [yZ g,zN zA d .no] (λr=>yZ r) (λ_=>[]) 0:=fw func211<|fH 1 [] [0,1] [] [2,4,7,8,9] (zUd _ _ _ _ _ _)
mutual def e94:Nat->Tm->Option (Tm)|0,_=>none|d+1,b=>Q6 d b 0 []def Q6:Nat->Tm->Int->yU->Option (Tm)|0,_,_,_=>none|d+1,b,c,a=>if decide (c<(b.sub.length:Int))then zS b.sub c>>=λx2=>e94 d x2>>=λr4=>yX 40 a [r4]>>=λl6=>Q6 d b (xC (c+1)) l6 else some (Tm.mk b.k b.n a)end
theorem zNQ:∀d:Nat,(∀b,Cz (e94 d b) 94 [] [yZ b] (λr=>yZ r) (λ_=>[]) 0)/\(∀b c a,Lz (Q6 d b c a) 0 f94 (pt 4021 f94) (λj=>sp j 27 0 [(2,.mp 0 0),(3,.mp 1 0),(12,zN zA b.sub .no),(13,ai (b.sub.length:Int)),(14,ai c)]) ⟨[(0,.cells [ai 0,ai 0,zN zA ([]:yU) .nl]),(1,.cells [ai b.k,ai b.n,zN zA a (.st 0 3)])],2,[0],1,[]⟩ (λr=>yZ r) (λ_=>[]) 0 [.blk 0,.seq (pt 63 f94)]):=xX ⟨λ_=>cN,λ_ _ _=>lN⟩ λd ih=>⟨λb=>fw func94<|fH 5 [(some 2,2,3)] [1,2] [0] [2,3,12,13,14] (ih.2 _ _ _),λb c a=>lw λ_=>rB 0 (rA 0 (xP (o:=.no)) λ_=>rS (jL 2)<|rC 1 [] (ih.1 _) λr4=>rS (oS 0 (xJ xY [r4]))<|rW (λh7=>oP 0 (vQ h7 (by simp))) λ_=>lH 2 [] [0,1] [1] [2,3,12,13,14] (ih.2 _ _ _))<|lE 2⟩
theorem c94{d b}:Cz (e94 d b) 94 [] [yZ b] (λr=>yZ r) (λ_=>[]) 0:=(zNQ _).1 _
def e64(b:Nat)(a:Tm):Option (Tm):=cG b a>>=λr1=>if r1 then e94 b a>>=λr4=>some r4 else some (Tm.mk 0 0 [])
theorem c64{b a}:Cz (e64 b a) 64 [] [yZ a] (λr=>yZ r) (λ_=>[]) 0:=fw func64<|rK 1 [] aR (λ_=>rC 2 [] c94 λ_=>fE 1) λ_=>fE 2
theorem sX(t:Tm):Tm.mk t.k t.n t.sub=t:=by cases t;rfl
theorem zAi{α:Type}{l:List α}{v:Nat}{x:α}{r:List α}(h:l.drop v=x::r):l.take (v+1)=l.take v++[x]:=by
 have:l[v]?=some x:=by have:=congrArg (λz=>z[0]?) h;simpa using this
 rw[List.take_add_one,this];rfl
mutual theorem zCW:∀(t:Tm),xQ t=true->zF (λq=>e94 q t) t|.mk k n l,hg=>by refine zF.succ ?_;simp only[e94];have hh:=uB hg;exact zAh l (.mk k n l) 0 [] rfl hh.2 (by have:=(jH hh.1).2.2.2.2;exact this) rfl theorem zAh:∀(l:List Tm)(p:Tm)(v:Nat)(acc:List Tm),p.sub.drop v=l->vS l=true->p.sub.length<=2->acc=p.sub.take v->zF (λq=>Q6 q p (v:Int) acc) p|[],p,v,acc,hd,hg,hl,ha=>by refine zF.succ ?_;simp only[Q6];refine zF.ifF (zY hd) (zF.ret.eq ?_);have:p.sub.length<=v:=List.drop_eq_nil_iff.1 hd;rw[ha,List.take_of_length_le this,sX]|t::l,p,v,acc,hd,hg,hl,ha=>by have hlt:=yC hd;have hc:=wU hg;refine zF.succ ?_;simp only[Q6];refine zF.ifT (zX hd) (zF.pure (zV hd) ((zCW t hc.1).bind (zF.pure (yF (by rw[ha];simp<;>omega)) ?_)));rw[zU v (by omega)];exact zAh l p (v+1) _ (zR hd) hc.2 hl (by rw[ha,zAi hd])end
def nZ(t:Tm):Tm:=if zG t=true then t else .mk 0 0 []
theorem sG(t:Tm)(ho:t.Ok):zF (λq=>e64 q t) (nZ t):=by
 simp only[e64];refine(xM t ho).bind ?_;unfold nZ;by_cases h:zG t=true;·rw[if_pos h];exact zF.ifT h ((zCW t (zL h).2.2).bind zF.ret)
 ·rw[if_neg h];exact zF.ifF (by simpa using h) zF.ret
def yK:Tm->Tm|.mk k n [a,b]=>if k=5 then yK a else .mk k n [a,b]|x=>x
def xF:Tm->List Tm|.mk k _ [a,b]=>if k=5 then xF a++[b]else[]|_=>[]
theorem zQR{l:List Tm}(h:l.length=2):∃a b,l=[a,b]:=by rcases l with _|⟨a,_|⟨b,_|⟨c,l⟩⟩⟩<;>simp at h;exact⟨a,b,rfl⟩
theorem cI(n:Int)(a b:Tm):yK (.mk 5 n [a,b])=yK a:=by rw[yK];simp
theorem kZ(n:Int)(a b:Tm):xF (.mk 5 n [a,b])=xF a++[b]:=by rw[xF];simp
theorem gF{t:Tm}(h:t.k≠5):yK t=t:=by
 unfold yK;split;·exact if_neg h
 ·rfl
theorem mX{t:Tm}(h:t.k≠5):xF t=[]:=by
 unfold xF;split;·exact if_neg h
 ·rfl
theorem cJ{P:Tm->Prop}(h0:∀t,xQ t=true->t.k≠5->P t)(h1:∀n a b,xQ (.mk 5 n [a,b])=true->xQ a=true->xQ b=true->P a->P (.mk 5 n [a,b])):∀t:Tm,xQ t=true->P t:=by intro t;induction hn:t.nodes using Nat.strongRecOn generalizing t with|ind m ih=>
 intro hg;by_cases h:t.k=5
 ·obtain⟨k,n,l⟩:=t;have hh:=uB hg;have hs:=tR hh.1;simp only[Tm.k]at h;subst h;obtain⟨a,b,rfl⟩:=zQR (hs.2.2.2.2.2.1 (.inr (.inr rfl))).1;have hc:=wU hh.2;have hc2:=wU hc.2;refine h1 n a b hg hc.1 hc2.1 (ih a.nodes ?_ a rfl hc.1);rw[Tm.nodes,yW]at hn;omega
 ·exact h0 t hg h
theorem zUc(l:List Tm)(hl:l.length<=1048576):∀(m i:Nat)(acc:List Tm),2*i+m=l.length->acc.length=l.length->(∀p,p<l.length->acc[p]?=if p<i\/l.length<p+i+1 then l[l.length-1-p]? else l[p]?)->zF (λq=>sP q l (i:Int) ((l.length:Int)-1-i) acc) l.reverse:=by
 have fin:∀(i:Nat)(acc:List Tm),(∀p,p<l.length->p<i\/l.length<p+i+1\/l.length=2*p+1)->acc.length=l.length->(∀p,p<l.length->acc[p]?=if p<i\/l.length<p+i+1 then l[l.length-1-p]? else l[p]?)->acc=l.reverse:=λi acc h0 h1 h2=>by
  refine List.ext_getElem? λp=>?_;by_cases hp:p<l.length
  ·rw[h2 p hp,List.getElem?_reverse hp];by_cases h:p<i\/l.length<p+i+1;·rw[if_pos h]
   ·rw[if_neg h];have:=h0 p hp;rw[show l.length-1-p=p by omega]
  ·rw[List.getElem?_eq_none (by omega),List.getElem?_eq_none (by simp;omega)]
 intro m;induction m using Nat.strongRecOn with|ind m ih=>
  intro i acc hm ha hI;refine zF.succ ?_;simp only[sP];by_cases hm2:m<2;·exact zF.ifF (decide_eq_false (by omega)) (zF.ret.eq (fin i acc (λp hp=>by omega) ha hI))
  ·have g1:oT l.length ((l.length:Int)-1-i)=some (l.length-1-i):=by unfold oT;rw[if_pos (by omega)];congr 1;omega
   have g2:oT l.length (i:Int)=some i:=by unfold oT;rw[if_pos (by omega)];congr 1
   obtain⟨x,hx⟩:∃x,zS acc ((l.length-1-i:Nat):Int)=some x:=⟨acc[l.length-1-i]'(by omega),by unfold zS;rw[if_pos (by omega)];simp⟩;obtain⟨y,hy⟩:∃y,zS acc (i:Int)=some y:=⟨acc[i]'(by omega),by unfold zS;rw[if_pos (by omega)];simp⟩;have ex:acc[l.length-1-i]?=some x:=by have:=(lK hx).2.2;simpa using this
   have ey:acc[i]?=some y:=by have:=(lK hy).2.2;simpa using this
   rw[hI _ (by omega),if_neg (by omega)]at ex ey;refine zF.ifT (decide_eq_true (by omega)) (zF.pure g1 (zF.pure hx (zF.pure g2 (zF.pure hy (zF.pure (a:=acc.set i x) (by unfold jF;rw[if_pos (by omega)]) (zF.pure (a:=(acc.set i x).set (l.length-1-i) y) (by unfold jF;rw[if_pos (by simp;omega)]) ?_))))));rw[zU i (by omega),yS (by omega) (by omega),show(l.length:Int)-1-i-1=(l.length:Int)-1-((i+1:Nat):Int)by omega];refine ih (m-2) (by omega) (i+1) _ (by omega) (by simp[ha]) λp hp=>?_;rw[List.getElem?_set,List.getElem?_set];by_cases h1:l.length-1-i=p;·rw[if_pos h1,if_pos (by simp;omega),if_pos (by omega),show l.length-1-p=i by omega,ey]
   ·rw[if_neg h1];by_cases h2:i=p;·rw[if_pos h2,if_pos (by omega),if_pos (by omega),show l.length-1-p=l.length-1-i by omega,ex]
    ·rw[if_neg h2,hI p hp];by_cases h3:p<i\/l.length<p+i+1;·rw[if_pos h3,if_pos (by omega)]
     ·rw[if_neg h3,if_neg (by omega)]
theorem zQS(l:List Tm)(hl:l.length<=1048576):zF (λq=>kC q l) l.reverse:=by
 simp only[kC];rw[yS (by omega) (by omega)];have:=zUc l hl l.length 0 l (by omega) rfl λp hp=>by rw[if_neg (by omega)]
 simpa using this
theorem zNR(p0:Tm):∀t:Tm,xQ t=true->∀l:List Tm,l.length+t.nodes<=8192->zF (λq=>tU q p0 l t.k t.n t.sub) (.inr (xF t++l.reverse,yK t)):=by
 refine cJ ?_ ?_
 ·intro t hg hk l hl;rw[gF hk,mX hk];refine zF.succ ?_;simp only[tU];refine zF.ifF (by simpa using hk) ((zQS l (by omega)).bind (zF.pure (a:=l.reverse) (by unfold I9;rw[if_pos (by simp)]) (zF.ret.eq ?_)));rw[sX];simp
 ·intro n a b hg ha hb ih l hl;rw[Tm.nodes,yW,yW,yW]at hl;rw[cI,kZ];refine zF.succ ?_;simp only[tU];refine zF.ifT rfl (zF.ifT rfl (zF.ifF (decide_eq_false (by omega)) (zF.pure (a:=b) rfl (zF.pure (yF (by simp;omega)) (zF.pure (a:=a) rfl ((ih (l++[b]) (by simp;omega)).eq ?_))))));simp
theorem kD(t:Tm)(hs:zG t=true):zF (λq=>B9 q t) (yK t,xF t):=by have h:=zL hs;simp only[B9,B8];refine(zNR t t h.2.2 [] (by simpa using h.1)).bind (zF.ret.eq ?_);simp
theorem u7:∀t:Tm,xQ t=true->xQ (yK t)=true/\(yK t).k≠5/\(yK t).nodes<=t.nodes/\(yK t).high<=t.high/\∀x∈xF t,xQ x=true/\x.nodes<t.nodes/\x.high<t.high:=by
 refine cJ ?_ ?_
 ·intro t hg hk;rw[gF hk,mX hk];exact⟨hg,hk,Nat.le_refl _,Nat.le_refl _,λx hx=>by cases hx⟩
 ·intro n a b hg ha hb ih;rw[cI,kZ];simp only[Tm.nodes,yW,Tm.high,uH];refine⟨ih.1,ih.2.1,by omega,by omega,λx hx=>?_⟩;rcases List.mem_append.1 hx with hx|hx;·have:=ih.2.2.2.2 x hx;exact⟨this.1,by omega,by omega⟩
  ·simp at hx;subst hx;exact⟨hb,by omega,by omega⟩
theorem gG{t:Tm}(h1:t.nodes<=8192)(h2:t.high<=128)(h3:xQ t=true):zG t=true:=by unfold zG;simp[h1,h2,h3]
theorem xN{t x:Tm}(h:zG t=true)(hx:x∈xF t):zG x=true:=by have hs:=zL h;have:=(u7 t hs.2.2).2.2.2.2 x hx;exact gG (by omega) (by omega) this.1
theorem tS{t:Tm}(h:zG t=true):zG (yK t)=true:=by have hs:=zL h;have:=u7 t hs.2.2;exact gG (by omega) (by omega) this.1
theorem sB:∀t:Tm,xQ t=true->(xF t).length<t.nodes:=by
 refine cJ ?_ ?_;·intro t hg hk;rw[mX hk];have:=vR t;simp;omega
 ·intro n a b hg ha hb ih;rw[kZ,Tm.nodes,yW,yW,yW];simp;omega
def mA(f:Tm):List Tm->Tm|[]=>f|a::l=>mA (.mk 5 0 [f,a]) l
theorem Q7(f a:Tm):zF (λq=>zCo q f a) (.mk 5 0 [f,a]):=zF.mk λ_=>rfl
theorem zCX:∀(l p:List Tm)(v:Nat)(f:Tm),p.drop v=l->p.length<9223372036854775808->zF (λq=>cH q p (v:Int) f.k f.n f.sub) (mA f l)|[],p,v,f,hd,hl=>by refine zF.succ ?_;simp only[cH];exact zF.ifF (zY hd) (zF.ret.eq (by rw[sX,mA]))|a::l,p,v,f,hd,hl=>by have hlt:=yC hd;refine zF.succ ?_;simp only[cH];rw[sX];refine zF.ifT (zX hd) (zF.pure (zV hd) ((Q7 f a).bind ?_));rw[zU v (by omega),mA];exact zCX l p (v+1) (.mk 5 0 [f,a]) (zR hd) hl
theorem qY(f:Tm)(l:List Tm)(h:l.length<9223372036854775808):zF (λq=>aF q f l) (mA f l):=by simp only[aF];exact zCX l l 0 f rfl h
theorem mL:∀(l:List Tm)(f:Tm),f.Ok->(∀x∈l,x.Ok)->(mA f l).Ok|[],f,hf,_=>by rw[mA];exact hf|a::l,f,hf,hl=>by rw[mA];refine mL l _ ?_ λx hx=>hl x (by simp[hx]);rw[Tm.Ok,mW,mW,mW];exact⟨by simp,hf,hl a (by simp),trivial⟩
def zGL(b:Nat)(a:Int):Option (Tm):=zGJ b 1 a []>>=λr1=>some r1
theorem zNS{b a}:Cz (zGL b a) 140 [] [ai a] (λr=>yZ r) (λ_=>[]) 0:=fw func140<|rC 0 [] zJE λ_=>fE 1
def zEG(b:Nat)(a:Int):Option (Tm):=zGJ b 2 a []>>=λr1=>some r1
theorem zJF{b a}:Cz (zEG b a) 182 [] [ai a] (λr=>yZ r) (λ_=>[]) 0:=fw func182<|rC 0 [] zJE λ_=>fE 1
def zQT(b:Nat)(a:Int):Option (Bool):=if decide (a>=0)then some (decide (a<=1048576))else some false
theorem yBJ{b a}:Cz (zQT b a) 222 [] [ai a] (λr=>ab r) (λ_=>[]) 0:=fw func222<|rB 0 (fE 1)<|fE 0
def zAg(d:Nat)(a b c:Int):Option (Int):=if decide (a<b)then some a else some (xC (a+c))
theorem zQU{d a b c}:Cz (zAg d a b c) 224 [.cells [ai b],.cells [ai c]] [ai a,.mp 0 0,.mp 1 0] (λr=>ai r) (λ_=>[.cells [ai b],.cells [ai c]]) 0:=fw func224<|rB 1 (fE 0)<|fE 2
mutual def mC:Nat->Tm->Int->Int->Int->Option (Tm)|0,_,_,_,_=>none|g+1,b,e,c,d=>if b.k==1 then if decide (b.n>=e)then zAg g (xC (b.n-e)) c d>>=λr3=>zGL g (xC (r3+e))>>=λr5=>some r5 else zGL g b.n>>=λr7=>some r7 else tV g b e c d 0 []def tV:Nat->Tm->Int->Int->Int->Int->yU->Option (Tm)
 |0,_,_,_,_,_,_=>none|g+1,b,e,c,d,f,a=>if decide (f<(b.sub.length:Int))then zS b.sub f>>=λx10=>if f==1 then if b.k !=5 then mC g x10 (xC (e+1)) c d>>=λr14=>yX 40 a [r14]>>=λl16=>tV g b e c d (xC (f+1)) l16 else mC g x10 e c d>>=λr18=>yX 40 a [r18]>>=λl20=>tV g b e c d (xC (f+1)) l20 else mC g x10 e c d>>=λr22=>yX 40 a [r22]>>=λl24=>tV g b e c d (xC (f+1)) l24 else some (Tm.mk b.k b.n a)end
theorem aG:∀g:Nat,(∀b e c d,Cz (mC g b e c d) 223 [.cells [ai c],.cells [ai d]] [yZ b,ai e,.clo 224 [] [.mp 0 0,.mp 1 0]] (λr=>yZ r) (λ_=>[.cells [ai c],.cells [ai d]]) 0)/\(∀b e c d f a,Lz (tV g b e c d f a) 2 f223 (pt 16309 f223) (λj=>sp j 64 0 [(1,ai e),(2,.clo 224 [] [.mp 0 0,.mp 1 0]),(3,.mp 2 0),(6,.mp 3 0),(7,.mp 4 0),(36,zN zA b.sub .no),(37,ai (b.sub.length:Int)),(38,ai f)]) ⟨[(0,.cells [ai c]),(1,.cells [ai d]),(2,.cells [ai b.k,ai b.n,zN zA b.sub .no]),(3,.cells [ai 0,ai 0,zN zA ([]:yU) .nl]),(4,.cells [ai b.k,ai b.n,zN zA a (.st 0 3)])],5,[0],1,[]⟩ (λr=>yZ r) (λ_=>[.cells [ai c],.cells [ai d]]) 0 [.blk 0,.seq (pt 255 f223)]):=xX ⟨λ_ _ _ _=>cN,λ_ _ _ _ _ _=>lN⟩ λg ih=>⟨λb e c d=>fw func223<|rB 1 (rB 1 (rC 2 [0,1] zQU λ_=>rC 1 [] zNS λ_=>fE 1)<|rC 1 [] zNS λ_=>fE 1)<|fH 5 [(some 4,2,3)] [0,1,2,3,4] [0] [1,2,3,6,7,36,37,38] (ih.2 _ _ _ _ _ _),λb e c d f a=>lw λ_=>rB 0 (rA 0 (xP (o:=.no)) λ_=>rB 2 (rB 1 (rS (jL 1)<|rC 1 [0,1] (ih.1 _ _ _ _) λr14=>rS (oS 0 (xJ xY [r14]))<|rW (λh17=>oP 0 (vQ h17 (by simp))) λ_=>lH 2 [] [0,1,2,3,4] [1] [1,2,3,6,7,36,37,38] (ih.2 _ _ _ _ _ _))<|rS (jL 0)<|rC 1 [0,1] (ih.1 _ _ _ _) λr18=>rS (oS 0 (xJ xY [r18]))<|rW (λh21=>oP 0 (vQ h21 (by simp))) λ_=>lH 2 [] [0,1,2,3,4] [1] [1,2,3,6,7,36,37,38] (ih.2 _ _ _ _ _ _))<|rS (jL 0)<|rC 1 [0,1] (ih.1 _ _ _ _) λr22=>rS (oS 0 (xJ xY [r22]))<|rW (λh25=>oP 0 (vQ h25 (by simp))) λ_=>lH 2 [] [0,1,2,3,4] [1] [1,2,3,6,7,36,37,38] (ih.2 _ _ _ _ _ _))<|lE 2⟩
theorem zQV{g b e c d}:Cz (mC g b e c d) 223 [.cells [ai c],.cells [ai d]] [yZ b,ai e,.clo 224 [] [.mp 0 0,.mp 1 0]] (λr=>yZ r) (λ_=>[.cells [ai c],.cells [ai d]]) 0:=(aG _).1 _ _ _ _
def zQW(a:Nat)(b:Tm)(c d:Int):Option (Tm×Int):=cG a b>>=λr1=>if r1 then zQT a c>>=λr4=>if r4 then zQT a d>>=λr7=>if r7 then mC a b 0 d c>>=λr10=>cG a r10>>=λr12=>if r12 then some (r10,0)else some ((Tm.mk 0 0 []),2)else some ((Tm.mk 0 0 []),5)else some ((Tm.mk 0 0 []),5)else some ((Tm.mk 0 0 []),5)
theorem yBK{a b c d}:Cz (zQW a b c d) 205 [] [yZ b,ai c,ai d] (λr=>.tup [yZ r.1,ai r.2]) (λ_=>[]) 0:=fw func205<|rK 1 [] aR (λ_=>rK 2 [] yBJ (λ_=>rK 2 [] yBJ (λ_=>rC 2 [2,1] zQV λ_=>rK 2 [] aR (λ_=>fE 3) λ_=>fE 2) λ_=>fE 2) λ_=>fE 2) λ_=>fE 2
def zJG(c:Nat)(a:Tm)(b:Int):Option (Tm×Int):=zQW c a b 0>>=λr1=>some (r1.1,r1.2)
theorem zUb{c a b}:Cz (zJG c a b) 183 [] [yZ a,ai b] (λr=>.tup [yZ r.1,ai r.2]) (λ_=>[]) 0:=fw func183<|rC 1 [] yBK λ_=>fE 3
def wW(k:Int)(i:Nat)(b:Int):Int:=if i=1/\k≠5 then b+1 else b
mutual def aS:Tm->Int->Int->Int->Tm|.mk kd n l,b,c,k=>if kd=1 then .mk 1 (if b<=n then(if n-b<c then n-b else n-b+k)+b else n) []else .mk kd n (u9 l kd 0 b c k)def u9:List Tm->Int->Nat->Int->Int->Int->List Tm|[],_,_,_,_,_=>[]|t::l,kd,i,b,c,k=>aS t (wW kd i b) c k::u9 l kd (i+1) b c k end
theorem zLH:∀(l:List Tm)(kd:Int)(i:Nat)(b c k:Int),(u9 l kd i b c k).length=l.length|[],_,_,_,_,_=>by rw[u9]|t::l,kd,i,b,c,k=>by rw[u9];exact congrArg (·+1) (zLH l kd (i+1) b c k)
theorem Q8(n:Int):zF (λq=>zGL q n) (.mk 1 n []):=zF.mk λ_=>rfl
theorem cK(n:Int):zF (λq=>zEG q n) (.mk 2 n []):=zF.mk λ_=>rfl
mutual theorem t6:∀(t:Tm)(b c k:Int),xQ t=true->0<=b->b+t.high<=1152921504606846976->0<=c->c<=1048576->0<=k->k<=1048576->zF (λq=>mC q t b c k) (aS t b c k)
 |.mk kd n l,b,c,k,hg,hb,hb2,hc,hc2,hk,hk2=>by
  refine zF.succ ?_;simp only[mC];have hh:=uB hg;have hn:=jH hh.1;rw[Tm.high]at hb2;rw[aS];by_cases h1:kd=1
  ·rw[if_pos h1];refine zF.ifT (by simpa[Tm.k]using h1) ?_;simp only[Tm.n];by_cases h2:n>=b
   ·refine zF.ifT (by simpa using h2) ?_;rw[if_pos h2,yS (x:=n-b) (by omega) (by omega)];refine zF.bind (a:=if n-b<c then n-b else n-b+k) ?_ ?_
    ·refine zF.mk λq=>?_;unfold zAg;by_cases h3:n-b<c;·simp[h3]
     ·simp[h3];exact yS (by omega) (by omega)
    ·rw[yS (by split<;>omega) (by split<;>omega)];exact(Q8 _).bind zF.ret
   ·refine zF.ifF (by simpa using h2) ?_;rw[if_neg h2];exact(Q8 _).bind zF.ret
  ·rw[if_neg h1];refine zF.ifF (by simpa[Tm.k]using h1) ?_;exact zGM l (.mk kd n l) 0 b c k [] rfl hh.2 (by have:=hn.2.2.2.2;exact this) hb (by omega) hc hc2 hk hk2 (by simp)theorem zGM:∀(l:List Tm)(p:Tm)(v:Nat)(b c k:Int)(acc:List Tm),p.sub.drop v=l->vS l=true->p.sub.length<=2->0<=b->b+1+uH l<=1152921504606846976->0<=c->c<=1048576->0<=k->k<=1048576->acc.length<=v->zF (λq=>tV q p b c k (v:Int) acc) (.mk p.k p.n (acc++u9 l p.k v b c k))
 |[],p,v,b,c,k,acc,hd,hg,hl,hb,hb2,hc,hc2,hk,hk2,ha=>by refine zF.succ ?_;simp only[tV];exact zF.ifF (zY hd) (zF.ret.eq (by rw[u9];simp))|t::l,p,v,b,c,k,acc,hd,hg,hl,hb,hb2,hc,hc2,hk,hk2,ha=>by
  have hlt:=yC hd;have hgc:=wU hg;rw[uH]at hb2;refine zF.succ ?_;simp only[tV];refine zF.ifT (zX hd) (zF.pure (zV hd) ?_);have next:∀(x:Tm),zF (λq=>yX 40 acc [x]>>=λl16=>tV q p b c k (xC ((v:Int)+1)) l16) (.mk p.k p.n (acc++x::u9 l p.k (v+1) b c k)):=λx=>by refine zF.pure (yF (by simp<;>omega)) ?_;rw[zU v (by omega)];refine(zGM l p (v+1) b c k (acc++[x]) (zR hd) hgc.2 hl hb (by omega) hc hc2 hk hk2 (by simp<;>omega)).eq (by simp)
  rw[u9];by_cases h1:v=1
  ·subst h1;refine zF.ifT rfl ?_;by_cases h5:p.k=5
   ·refine zF.ifF (by simp[h5]) ?_;have e:wW p.k 1 b=b:=by unfold wW;simp[h5]
    rw[e];exact(t6 t b c k hgc.1 hb (by omega) hc hc2 hk hk2).bind (next _)
   ·refine zF.ifT (by simp[h5]) ?_;have e:wW p.k 1 b=b+1:=by unfold wW;simp[h5]
    rw[e,yS (x:=b+1) (by omega) (by omega)];exact(t6 t (b+1) c k hgc.1 (by omega) (by omega) hc hc2 hk hk2).bind (next _)
  ·refine zF.ifF (by simp<;>omega) ?_;have e:wW p.k v b=b:=by unfold wW;simp[h1]
   rw[e];exact(t6 t b c k hgc.1 hb (by omega) hc hc2 hk hk2).bind (next _)end
mutual theorem zJH:∀(t:Tm)(b c k:Int),t.Ok->(aS t b c k).Ok
 |.mk kd n l,b,c,k,h=>by
  rw[aS];split;·rw[Tm.Ok,mW];simp
  ·rw[Tm.Ok]at h⊢;rw[zLH];exact⟨h.1,zQX l kd 0 b c k h.2⟩theorem zQX:∀(l:List Tm)(kd:Int)(i:Nat)(b c k:Int),mW l->mW (u9 l kd i b c k)|[],_,_,_,_,_,_=>by rw[u9,mW];trivial|t::l,kd,i,b,c,k,h=>by rw[mW]at h;rw[u9,mW];exact⟨zJH t _ c k h.1,zQX l kd (i+1) b c k h.2⟩end
def aT(n:Int):Bool:=decide (0<=n)&&decide (n<=1048576)
theorem zLI(n:Int):zF (λq=>zQT q n) (aT n):=by
 refine zF.mk λq=>?_;unfold zQT aT;by_cases h:n>=0;·rw[zXT (decide_eq_true h)];simp[show 0<=n from h]
 ·rw[zUu (decide_eq_false h)];simp[show¬0<=n from h]
def zT:Tm:=.mk 0 0 []
def tC(t:Tm)(k c:Int):Tm×Int:=if zG t=true/\aT k=true/\aT c=true then(if zG (aS t 0 c k)=true then(aS t 0 c k,0)else(zT,2))else(zT,5)
theorem zEH(t:Tm)(k c:Int)(ho:t.Ok):zF (λq=>zQW q t k c) (tC t k c):=by
 simp only[zQW];refine(xM t ho).bind ?_;unfold tC;by_cases h1:zG t=true
 ·refine zF.ifT h1 ((zLI k).bind ?_);by_cases h2:aT k=true
  ·refine zF.ifT h2 ((zLI c).bind ?_);by_cases h3:aT c=true
   ·rw[if_pos ⟨h1,h2,h3⟩];have hs:=zL h1;have h2':=h2;have h3':=h3;unfold aT at h2' h3';simp only[Bool.and_eq_true,decide_eq_true_eq]at h2' h3';refine zF.ifT h3 ((t6 t 0 c k hs.2.2 (by omega) (by omega) h3'.1 h3'.2 h2'.1 h2'.2).bind ((xM _ (zJH t 0 c k ho)).bind ?_));by_cases h4:zG (aS t 0 c k)=true;·rw[if_pos h4,if_pos h4];exact zF.ret
    ·rw[if_neg h4,if_neg h4];exact zF.ret
   ·rw[if_neg (λh=>h3 h.2.2)];exact zF.ifF (by simpa using h3) zF.ret
  ·rw[if_neg (λh=>h2 h.2.1)];exact zF.ifF (by simpa using h2) zF.ret
 ·rw[if_neg (λh=>h1 h.1)];exact zF.ifF (by simpa using h1) zF.ret
theorem kE(t:Tm)(k c:Int)(ho:t.Ok):(tC t k c).1.Ok:=by
 have hz:zT.Ok:=by unfold zT;rw[Tm.Ok,mW];simp
 unfold tC;split
 ·split;·exact zJH t 0 c k ho
  ·exact hz
 ·exact hz
theorem zLJ(t:Tm)(k:Int)(ho:t.Ok):zF (λq=>zJG q t k) (tC t k 0):=by simp only[zJG];exact(zEH t k 0 ho).bind zF.ret
def raT(a:Tm)(by' left:Int)(long:Bool):Tm×Int×Bool:=if left-szT a 0<0 then(.mk 2 0 [],left-szT a 0,true)else if(tC a by' 0).2≠0 then(.mk 2 0 [],left-szT a 0,true)else((tC a by' 0).1,left-szT a 0,long)
mutual def G3(ls:List Tm):Tm->Int->Int->Bool->Tm×Int×Bool|.mk kd n l,b,left,long=>if long=true then(.mk 2 0 [],left,long)else if kd=1/\b<=n then(if h:(n-b).toNat<ls.length then raT (ls[(n-b).toNat]) b left long else(.mk 1 (n-ls.length) [],left,long))else let r:=X2 ls l kd 0 b (left-1) (decide (left-1<0))
  (.mk kd n r.1,r.2.1,r.2.2)def X2(ls:List Tm):List Tm->Int->Nat->Int->Int->Bool->List Tm×Int×Bool|[],_,_,_,left,long=>([],left,long)|t::l,kd,i,b,left,long=>let x:=G3 ls t (wW kd i b) left long
 let r:=X2 ls l kd (i+1) b x.2.1 x.2.2
 (x.1::r.1,r.2.1,r.2.2)end
def kF(left:Int)(long:Bool):Prop:=-8193<=left/\left<=8192/\(long=false->0<=left)
theorem zQY{a:Tm}{by' left:Int}(h:kF left false):kF (raT a by' left false).2.1 (raT a by' left false).2.2:=by
 have:=zGe a 0 (by omega) (by omega);have h0:=h.2.2 rfl;have h1:=h.2.1;unfold raT kF;split;·exact⟨by simp only;omega,by simp only;omega,λh=>by cases h⟩
 ·split;·exact⟨by simp only;omega,by simp only;omega,λh=>by cases h⟩
  ·exact⟨by simp only;omega,by simp only;omega,λ_=>by simp only;omega⟩
def zGN(d:Nat)(a:Int)(b:Bool)(c:yU):Option (Unit):=some ()
theorem zQZ{d a b c}:Cz (zGN d a b c) 136 [.cells [ai a,ab b,.val .nilFunc],.cells [zN zA c .no]] [.mp 0 0,.mp 1 0] (λ_=>.clo 137 [] [.mp 1 0,.mp 2 0]) (λ_=>[.cells [ai a,ab b,.val .nilFunc],.cells [zN zA c .no],.cells [.mp 0 0]]) 0:=fw func136<|fF 0 [0,1,2]
def zUa(c:Nat)(a:Tm)(b:Int):Option (Int):=if a.k !=1 then some (-1)else if decide (a.n<b)then some (-1)else some (xC (a.n-b))
theorem yDV{c a b}:Cz (zUa c a b) 138 [] [yZ a,ai b] (λr=>ai r) (λ_=>[]) 0:=fw func138<|rB 1 (fE 0)<|rB 1 (fE 0)<|fE 2
def K1(b:Nat)(a:Int)(d:Bool)(e:yU)(c:Tm)(f:Int):Option (Tm×Int×Bool):=zNL b c>>=λr1=>if decide ((xC (a-r1))<0)then zEG b 0>>=λr4=>some (r4,(xC (a-r1)),true)else zJG b c f>>=λr6=>if r6.2 !=0 then zEG b 0>>=λr9=>some (r9,(xC (a-r1)),true)else some (r6.1,(xC (a-r1)),d)
theorem zRz{b a d e c f}:Cz (K1 b a d e c f) 139 [.cells [ai a,ab d,.clo 137 [] [.mp 1 0,.mp 2 0]],.cells [zN zA e .no],.cells [.mp 0 0]] [.mp 0 0,yZ c,ai f] (λr=>yZ r.1) (λr=>[.cells [ai r.2.1,ab r.2.2,.clo 137 [] [.mp 1 0,.mp 2 0]],.cells [zN zA e .no],.cells [.mp 0 0]]) 0:=fw func139<|rS (jL 0)<|rC 1 [] zYp λ_=>rB 3 (rC 1 [] zJF λ_=>fE 1)<|rC 1 [] zUb λ_=>rB 3 (rC 1 [] zJF λ_=>fE 1)<|fE 2
def iA(d:Nat)(e:Tm)(f:Int)(a:yU)(b:Int)(c:Bool):Option (Tm×Bool×Int×Bool):=zUa d e f>>=λr1=>if decide (r1<0)then some ((Tm.mk 0 0 []),false,b,c)else if decide (r1<(a.length:Int))then zS a r1>>=λx5=>K1 d b c a x5 f>>=λr7=>some (r7.1,true,r7.2.1,r7.2.2)else zGL d (xC (e.n-(a.length:Int)))>>=λr9=>some (r9,true,b,c)
theorem zRy{d e f a b c}:Cz (iA d e f a b c) 137 [.cells [zN zA a .no],.cells [.mp 2 0],.cells [ai b,ab c,.clo 137 [] [.mp 0 0,.mp 1 0]]] [yZ e,ai f,.mp 0 0,.mp 1 0] (λr=>.tup [yZ r.1,ab r.2.1]) (λr=>[.cells [zN zA a .no],.cells [.mp 2 0],.cells [ai r.2.2.1,ab r.2.2.2,.clo 137 [] [.mp 0 0,.mp 1 0]]]) 0:=fw func137<|rC 1 [] yDV λ_=>rB 0 (fE 1)<|rB 2 (rA 2 (xP (o:=.no)) λ_=>rC 1 [2,0,1] zRz λ_=>fE 1)<|rC 4 [] zNS λ_=>fE 1
mutual def mD:Nat->Int->Bool->yU->Tm->Int->Option (Tm×Int×Bool)|0,_,_,_,_,_=>none|m+1,q,p,e,d,f=>if p then zEG m 0>>=λr2=>some (r2,q,p)else iA m d f e q p>>=λr4=>if r4.2.1 then some (r4.1,r4.2.2.1,r4.2.2.2)else if decide ((xC (r4.2.2.1-1))<0)then uQ m e d f 0 (xC (r4.2.2.1-1)) true []else uQ m e d f 0 (xC (r4.2.2.1-1)) r4.2.2.2 []def uQ:Nat->yU->Tm->Int->Int->Int->Bool->yU->Option (Tm×Int×Bool)
 |0,_,_,_,_,_,_,_=>none|m+1,e,d,f,g,a,b,c=>if decide (g<(d.sub.length:Int))then zS d.sub g>>=λx9=>if g==1 then if d.k !=5 then mD m a b e x9 (xC (f+1))>>=λr13=>yX 40 c [r13.1]>>=λl15=>uQ m e d f (xC (g+1)) r13.2.1 r13.2.2 l15 else mD m a b e x9 f>>=λr17=>yX 40 c [r17.1]>>=λl19=>uQ m e d f (xC (g+1)) r17.2.1 r17.2.2 l19 else mD m a b e x9 f>>=λr21=>yX 40 c [r21.1]>>=λl23=>uQ m e d f (xC (g+1)) r21.2.1 r21.2.2 l23 else some ((Tm.mk d.k d.n c),a,b)end
theorem aH:∀m:Nat,(∀q p e d f,Cz (mD m q p e d f) 181 [.cells [ai q,ab p,.clo 137 [] [.mp 1 0,.mp 2 0]],.cells [zN zA e .no],.cells [.mp 0 0]] [.mp 0 0,yZ d,ai f] (λr=>yZ r.1) (λr=>[.cells [ai r.2.1,ab r.2.2,.clo 137 [] [.mp 1 0,.mp 2 0]],.cells [zN zA e .no],.cells [.mp 0 0]]) 0)/\(∀e d f g a b c,Lz (uQ m e d f g a b c) 3 f181 (pt 262069 f181) (λj=>sp j 79 0 [(0,.mp 0 0),(2,ai f),(4,.mp 3 0),(6,.mp 4 0),(9,.mp 5 0),(51,zN zA d.sub .no),(52,ai (d.sub.length:Int)),(53,ai g)]) ⟨[(0,.cells [ai a,ab b,.clo 137 [] [.mp 1 0,.mp 2 0]]),(1,.cells [zN zA e .no]),(2,.cells [.mp 0 0]),(3,.cells [ai d.k,ai d.n,zN zA d.sub .no]),(4,.cells [ai 0,ai 0,zN zA ([]:yU) .nl]),(5,.cells [ai d.k,ai d.n,zN zA c (.st 0 3)])],6,[0],1,[]⟩ (λr=>yZ r.1) (λr=>[.cells [ai r.2.1,ab r.2.2,.clo 137 [] [.mp 1 0,.mp 2 0]],.cells [zN zA e .no],.cells [.mp 0 0]]) 0 [.blk 0,.seq (pt 4095 f181)]):=xX ⟨λ_ _ _ _ _=>cN,λ_ _ _ _ _ _ _=>lN⟩ λm ih=>⟨λq p e d f=>fw func181<|rB 0 (rC 0 [] zJF λ_=>fE 1)<|rC 2 [1,2,0] zRy λ_=>rB 1 (fE 3)<|rB 5 (fH 6 [(some 6,2,3)] [0,1,2,3,4,6] [0] [0,2,4,6,9,51,52,53] (ih.2 _ _ _ _ _ _ _))<|fH 5 [(some 6,2,3)] [0,1,2,3,4,6] [0] [0,2,4,6,9,51,52,53] (ih.2 _ _ _ _ _ _ _),λe d f g a b c=>lw λ_=>rB 0 (rA 0 (xP (o:=.no)) λ_=>rB 2 (rB 1 (rS (jL 1)<|rC 1 [0,1,2] (ih.1 _ _ _ _ _) λr13=>rS (oS 0 (xJ xY [r13.1]))<|rW (λh16=>oP 0 (vQ h16 (by simp))) λ_=>lH 2 [] [0,1,2,3,4,5] [1] [0,2,4,6,9,51,52,53] (ih.2 _ _ _ _ _ _ _))<|rS (jL 0)<|rC 1 [0,1,2] (ih.1 _ _ _ _ _) λr17=>rS (oS 0 (xJ xY [r17.1]))<|rW (λh20=>oP 0 (vQ h20 (by simp))) λ_=>lH 2 [] [0,1,2,3,4,5] [1] [0,2,4,6,9,51,52,53] (ih.2 _ _ _ _ _ _ _))<|rS (jL 0)<|rC 1 [0,1,2] (ih.1 _ _ _ _ _) λr21=>rS (oS 0 (xJ xY [r21.1]))<|rW (λh24=>oP 0 (vQ h24 (by simp))) λ_=>lH 2 [] [0,1,2,3,4,5] [1] [0,2,4,6,9,51,52,53] (ih.2 _ _ _ _ _ _ _))<|lE 2⟩
theorem zRx{m q p e d f}:Cz (mD m q p e d f) 181 [.cells [ai q,ab p,.clo 137 [] [.mp 1 0,.mp 2 0]],.cells [zN zA e .no],.cells [.mp 0 0]] [.mp 0 0,yZ d,ai f] (λr=>yZ r.1) (λr=>[.cells [ai r.2.1,ab r.2.2,.clo 137 [] [.mp 1 0,.mp 2 0]],.cells [zN zA e .no],.cells [.mp 0 0]]) 0:=(aH _).1 _ _ _ _ _
def K2(b:Nat)(c:Tm)(a:yU):Option (Tm×Int):=zGN b 8192 false a>>=λr1=>mD b 8192 false a c 0>>=λr3=>if r3.2.2 then some ((Tm.mk 0 0 []),2)else cG b r3.1>>=λr6=>if r6 then some (r3.1,0)else some ((Tm.mk 0 0 []),2)
theorem zRw{b c a}:Cz (K2 b c a) 135 [.cells [zN zA a .no]] [yZ c,.clo 136 [] [.mp 0 0]] (λr=>.tup [yZ r.1,ai r.2]) (λ_=>[.cells [zN zA a .no]]) 0:=fw func135<|rC 0 [3,0] zQZ λ_=>rC 2 [3,0,4] zRx λ_=>rB 1 (fE 1)<|rK 1 [] aR (λ_=>fE 3) λ_=>fE 2
def cL:Nat->Tm->yU->Int->Option (Tm×Int)|0,_,_,_=>none|d+1,c,a,b=>if decide (b<(a.length:Int))then zS a b>>=λx5=>cG d x5>>=λr7=>if r7 then cL d c a (xC (b+1))else some ((Tm.mk 0 0 []),5)else K2 d c a>>=λr10=>some (r10.1,r10.2)
def C0(d:Nat)(c:Tm)(a:yU):Option (Tm×Int):=cG d c>>=λr1=>if r1 then cL d c a 0 else some ((Tm.mk 0 0 []),5)
theorem zUA:∀d:Nat,∀c a b,Lz (cL d c a b) 0 f104 (pt 4021 f104) (λj=>sp j 28 0 [(2,.mp 0 0),(3,.mp 1 0),(4,.mp 2 0),(12,zN zA a .no),(13,ai (a.length:Int)),(14,ai b)]) ⟨[(0,.cells [ai c.k,ai c.n,zN zA c.sub .no]),(1,.cells [zN zA a .no]),(2,.cells [ai 0,ai 0,zN zA ([]:yU) .nl])],3,[],0,[]⟩ (λr=>.tup [yZ r.1,ai r.2]) (λ_=>[]) 0 [.blk 0,.seq (pt 63 f104)]:=xX (λ_ _ _=>lN) λd ih=>λc a b=>lw λ_=>rB 0 (rA 0 (xP (o:=.no)) λ_=>rK 3 [] aR (λ_=>lH 2 [] [0,1,2] [] [2,3,4,12,13,14] (ih _ _ _)) λ_=>lE 2)<|rC 1 [1] zRw λ_=>lE 3
theorem Z6{d c a}:Cz (C0 d c a) 104 [] [yZ c,zN zA a .no] (λr=>.tup [yZ r.1,ai r.2]) (λ_=>[]) 0:=fw func104<|rK 1 [] aR (λ_=>fH 3 [] [0,1,2] [] [2,3,4,12,13,14] (zUA _ _ _ _)) λ_=>fE 2
def zUB(c:Nat)(b a:Tm):Option (Tm×Int):=C0 c b [a]>>=λr1=>some (r1.1,r1.2)
theorem yDW{c b a}:Cz (zUB c b a) 246 [] [yZ b,yZ a] (λr=>.tup [yZ r.1,ai r.2]) (λ_=>[]) 0:=fw func246<|rS (oS 2 (xJ xY [a]))<|rC 0 [] Z6 λ_=>fE 3
theorem zLK:zT.Ok:=by unfold zT;rw[Tm.Ok,mW];simp
theorem wP(k n:Int):(Tm.mk k n []).Ok:=by rw[Tm.Ok,mW];simp
theorem zNT(ls:List Tm)(a:Tm)(b left:Int)(long:Bool)(ho:a.Ok)(hl:kF left long):zF (λq=>K1 q left long ls a b) (raT a b left long):=by
 simp only[K1];have hs:=zGe a 0 (by omega) (by omega);have h1:=hl.1;have h2:=hl.2.1;refine(zEE a ho).bind ?_;rw[yS (x:=left-szT a 0) (by omega) (by omega)];unfold raT;by_cases h:left-szT a 0<0;·rw[if_pos h];exact zF.ifT (decide_eq_true h) ((cK 0).bind zF.ret)
 ·rw[if_neg h];refine zF.ifF (decide_eq_false h) ((zLJ a b ho).bind ?_);by_cases h3:(tC a b 0).2≠0;·rw[if_pos h3];exact zF.ifT (by simpa using h3) ((cK 0).bind zF.ret)
  ·rw[if_neg h3];exact zF.ifF (by simpa using h3) zF.ret
mutual theorem t7(ls:List Tm):∀(t:Tm)(b left:Int)(long:Bool),kF left long->kF (G3 ls t b left long).2.1 (G3 ls t b left long).2.2|.mk kd n l,b,left,long,h=>by rw[G3];cases long with|true=>simpa using h|false=>
 rw[if_neg (by simp)];split
 ·split;·exact zQY h
  ·exact h
 ·have h0:=h.2.2 rfl;have h1:=h.2.1;refine zGO ls l kd 0 b _ _ ⟨by omega,by omega,λh2=>?_⟩;simp at h2;omega theorem zGO(ls:List Tm):∀(l:List Tm)(kd:Int)(i:Nat)(b left:Int)(long:Bool),kF left long->kF (X2 ls l kd i b left long).2.1 (X2 ls l kd i b left long).2.2|[],kd,i,b,left,long,h=>by rw[X2];exact h|t::l,kd,i,b,left,long,h=>by rw[X2];exact zGO ls l kd (i+1) b _ _ (t7 ls t _ left long h)end
theorem zLL(ls:List Tm):∀(l:List Tm)(kd:Int)(i:Nat)(b left:Int)(long:Bool),(X2 ls l kd i b left long).1.length=l.length|[],_,_,_,_,_=>by rw[X2]|t::l,kd,i,b,left,long=>by rw[X2];exact congrArg (·+1) (zLL ls l kd (i+1) b _ _)
theorem zYj(a:Tm)(b left:Int)(long:Bool)(h:a.Ok):(raT a b left long).1.Ok:=by
 unfold raT;split;·exact wP _ _
 ·split;·exact wP _ _
  ·exact kE a b 0 h
mutual theorem zJI(ls:List Tm)(hls:∀a∈ls,a.Ok):∀(t:Tm)(b left:Int)(long:Bool),t.Ok->(G3 ls t b left long).1.Ok
 |.mk kd n l,b,left,long,h=>by
  rw[G3];split;·exact wP _ _
  ·split
   ·split;·exact zYj _ _ _ _ (hls _ (List.getElem_mem _))
    ·exact wP _ _
   ·rw[Tm.Ok]at h⊢;rw[zLL];exact⟨h.1,zRv ls hls l kd 0 b _ _ h.2⟩theorem zRv(ls:List Tm)(hls:∀a∈ls,a.Ok):∀(l:List Tm)(kd:Int)(i:Nat)(b left:Int)(long:Bool),mW l->mW (X2 ls l kd i b left long).1|[],_,_,_,_,_,_=>by rw[X2,mW];trivial|t::l,kd,i,b,left,long,h=>by rw[mW]at h;rw[X2,mW];exact⟨zJI ls hls t _ _ _ h.1,zRv ls hls l kd (i+1) b _ _ h.2⟩end
mutual theorem zLM(ls:List Tm)(hls:∀a∈ls,a.Ok)(hlen:ls.length<=1152921504606846976):∀(t:Tm)(b left:Int)(long:Bool),xQ t=true->0<=b->b+t.high<=1152921504606846976->kF left long->zF (λq=>mD q left long ls t b) (G3 ls t b left long)|.mk kd n l,b,left,long,hg,hb,hb2,hl=>by refine zF.succ ?_;simp only[mD];have hh:=uB hg;have hn:=jH hh.1;rw[Tm.high]at hb2;rw[G3];cases long with|true=>exact zF.ifT rfl ((cK 0).bind (zF.ret.eq (by simp)))|false=>
   refine zF.ifF rfl ?_;rw[if_neg (by simp)];have hloose:zF (λq=>zUa q (.mk kd n l) b) (if kd=1/\b<=n then n-b else-1):=by
    refine zF.mk λq=>?_;unfold zUa;simp only[Tm.k,Tm.n];by_cases h1:kd=1
    ·by_cases h2:n<b;·simp[h1,h2,show¬b<=n by omega]
     ·simp[h1,h2,show b<=n by omega];exact yS (by omega) (by omega)
    ·simp[h1]
   by_cases h1:kd=1/\b<=n
   ·rw[if_pos h1]at hloose⊢;have hleaf:zF (λq=>iA q (.mk kd n l) b ls left false) (let r:=(if h:(n-b).toNat<ls.length then raT (ls[(n-b).toNat]) b left false else(.mk 1 (n-ls.length) [],left,false));(r.1,true,r.2.1,r.2.2)):=by
     simp only[iA];refine hloose.bind (zF.ifF (decide_eq_false (by omega)) ?_);by_cases h2:(n-b).toNat<ls.length
     ·rw[dif_pos h2];refine zF.ifT (decide_eq_true (by omega)) (zF.pure (a:=ls[(n-b).toNat]) ?_ ((zNT ls _ b left false (hls _ (List.getElem_mem _)) hl).bind zF.ret));unfold zS;rw[if_pos (by omega)];exact List.getElem?_eq_getElem h2
     ·rw[dif_neg h2];refine zF.ifF (decide_eq_false (by omega)) ?_;simp only[Tm.n];rw[yS (by omega) (by omega)];exact(Q8 _).bind zF.ret
    exact hleaf.bind (zF.ifT rfl zF.ret)
   ·rw[if_neg h1]at hloose⊢;have hleaf:zF (λq=>iA q (.mk kd n l) b ls left false) (.mk 0 0 [],false,left,false):=by simp only[iA];exact hloose.bind (zF.ifT rfl zF.ret)
    refine hleaf.bind (zF.ifF rfl ?_);have h0:=hl.2.2 rfl;have h3:=hl.2.1;rw[yS (x:=left-1) (by omega) (by omega)];have go:∀lg:Bool,lg=decide (left-1<0)->zF (λq=>uQ q ls (.mk kd n l) b 0 (left-1) lg []) (let r:=X2 ls l kd 0 b (left-1) (decide (left-1<0));(.mk kd n r.1,r.2.1,r.2.2)):=λlg hlg=>by subst hlg;refine(zRu ls hls hlen l (.mk kd n l) 0 b (left-1) _ [] rfl hh.2 (by have:=hn.2.2.2.2;exact this) hb (by omega) ⟨by omega,by omega,λh2=>?_⟩ (by simp)).eq (by simp[Tm.k,Tm.n]);simp at h2;omega
    by_cases h4:left-1<0;·exact zF.ifT (decide_eq_true h4) (go true (by simp[h4]))
    ·exact zF.ifF (decide_eq_false h4) (go false (by simp[h4]))theorem zRu(ls:List Tm)(hls:∀a∈ls,a.Ok)(hlen:ls.length<=1152921504606846976):∀(l:List Tm)(p:Tm)(v:Nat)(b left:Int)(long:Bool)(acc:List Tm),p.sub.drop v=l->vS l=true->p.sub.length<=2->0<=b->b+1+uH l<=1152921504606846976->kF left long->acc.length<=v->zF (λq=>uQ q ls p b (v:Int) left long acc) (.mk p.k p.n (acc++(X2 ls l p.k v b left long).1),(X2 ls l p.k v b left long).2.1,(X2 ls l p.k v b left long).2.2)
 |[],p,v,b,left,long,acc,hd,hg,hl2,hb,hb2,hl,ha=>by refine zF.succ ?_;simp only[uQ];exact zF.ifF (zY hd) (zF.ret.eq (by rw[X2];simp))|t::l,p,v,b,left,long,acc,hd,hg,hl2,hb,hb2,hl,ha=>by
  have hlt:=yC hd;have hgc:=wU hg;rw[uH]at hb2;refine zF.succ ?_;simp only[uQ];refine zF.ifT (zX hd) (zF.pure (zV hd) ?_);have next:∀x:Tm×Int×Bool,kF x.2.1 x.2.2->zF (λq=>yX 40 acc [x.1]>>=λl15=>uQ q ls p b (xC ((v:Int)+1)) x.2.1 x.2.2 l15) (.mk p.k p.n (acc++x.1::(X2 ls l p.k (v+1) b x.2.1 x.2.2).1),(X2 ls l p.k (v+1) b x.2.1 x.2.2).2.1,(X2 ls l p.k (v+1) b x.2.1 x.2.2).2.2):=λx hx=>by refine zF.pure (yF (by simp<;>omega)) ?_;rw[zU v (by omega)];exact(zRu ls hls hlen l p (v+1) b x.2.1 x.2.2 (acc++[x.1]) (zR hd) hgc.2 hl2 hb (by omega) hx (by simp<;>omega)).eq (by simp)
  rw[X2];by_cases h1:v=1
  ·subst h1;refine zF.ifT rfl ?_;by_cases h5:p.k=5
   ·refine zF.ifF (by simp[h5]) ?_;have e:wW p.k 1 b=b:=by unfold wW;simp[h5]
    rw[e];exact(zLM ls hls hlen t b left long hgc.1 hb (by omega) hl).bind (next _ (t7 ls t b left long hl))
   ·refine zF.ifT (by simp[h5]) ?_;have e:wW p.k 1 b=b+1:=by unfold wW;simp[h5]
    rw[e,yS (x:=b+1) (by omega) (by omega)];exact(zLM ls hls hlen t (b+1) left long hgc.1 (by omega) (by omega) hl).bind (next _ (t7 ls t (b+1) left long hl))
  ·refine zF.ifF (by simp<;>omega) ?_;have e:wW p.k v b=b:=by unfold wW;simp[h1]
   rw[e];exact(zLM ls hls hlen t b left long hgc.1 hb (by omega) hl).bind (next _ (t7 ls t b left long hl))end
def eM(t:Tm)(ls:List Tm):Tm×Int:=if zG t=true/\(ls.all zG)=true then(if(G3 ls t 0 8192 false).2.2=true then(zT,2)else if zG (G3 ls t 0 8192 false).1=true then((G3 ls t 0 8192 false).1,0)else(zT,2))else(zT,5)
theorem zYi(t:Tm)(ls:List Tm)(h:zG t=true)(ho:t.Ok)(hls:∀a∈ls,a.Ok)(hlen:ls.length<=1152921504606846976):zF (λq=>K2 q t ls) (if(G3 ls t 0 8192 false).2.2=true then(zT,2)else if zG (G3 ls t 0 8192 false).1=true then((G3 ls t 0 8192 false).1,0)else(zT,2)):=by
 simp only[K2];have hs:=zL h;refine zF.bind (a:=()) (zF.mk λ_=>rfl) ((zLM ls hls hlen t 0 8192 false hs.2.2 (by omega) (by omega) ⟨by omega,by omega,λ_=>by omega⟩).bind ?_);by_cases h1:(G3 ls t 0 8192 false).2.2=true;·rw[if_pos h1];exact zF.ifT h1 zF.ret
 ·rw[if_neg h1];refine zF.ifF (by simpa using h1) ((xM _ (zJI ls hls t 0 8192 false ho)).bind ?_);by_cases h2:zG (G3 ls t 0 8192 false).1=true;·rw[if_pos h2,if_pos h2];exact zF.ret
  ·rw[if_neg h2,if_neg h2];exact zF.ret
theorem zGP(t:Tm)(ls:List Tm)(h:zG t=true)(ho:t.Ok)(hls:∀a∈ls,a.Ok)(hlen:ls.length<=1152921504606846976):∀(r:List Tm)(v:Nat),ls.drop v=r->zF (λq=>cL q t ls (v:Int)) (if(r.all zG)=true then(if(G3 ls t 0 8192 false).2.2=true then(zT,2)else if zG (G3 ls t 0 8192 false).1=true then((G3 ls t 0 8192 false).1,0)else(zT,2))else(zT,5))
 |[],v,hd=>by refine zF.succ ?_;simp only[cL];exact zF.ifF (zY hd) ((zYi t ls h ho hls hlen).bind (zF.ret.eq (by simp)))|x::r,v,hd=>by
  have hlt:=yC hd;have hx:x∈ls:=by
   have:x∈ls.drop v:=by rw[hd];simp
   exact List.mem_of_mem_drop this
  refine zF.succ ?_;simp only[cL];refine zF.ifT (zX hd) (zF.pure (zV hd) ((xM x (hls x hx)).bind ?_));by_cases h1:zG x=true
  ·refine zF.ifT h1 ?_;rw[zU v (by omega)];exact(zGP t ls h ho hls hlen r (v+1) (zR hd)).eq (by simp[h1])
  ·exact zF.ifF (by simpa using h1) (zF.ret.eq (by simp[h1,zT]))
theorem t8(t:Tm)(ls:List Tm)(ho:t.Ok)(hls:∀a∈ls,a.Ok)(hlen:ls.length<=1152921504606846976):zF (λq=>C0 q t ls) (eM t ls):=by
 simp only[C0];refine(xM t ho).bind ?_;unfold eM;by_cases h:zG t=true
 ·refine zF.ifT h ((zGP t ls h ho hls hlen ls 0 rfl).eq ?_);simp[h]
 ·exact zF.ifF (by simpa using h) (zF.ret.eq (by simp[h,zT]))
theorem zYh(t a:Tm)(ho:t.Ok)(ha:a.Ok):zF (λq=>zUB q t a) (eM t [a]):=by simp only[zUB];exact(t8 t [a] ho (by simpa using ha) (by simp)).bind zF.ret
theorem s4(t:Tm)(ls:List Tm)(ho:t.Ok)(hls:∀a∈ls,a.Ok):(eM t ls).1.Ok:=by
 unfold eM;split
 ·split;·exact zLK
  ·split;·exact zJI ls hls t 0 8192 false ho
   ·exact zLK
 ·exact zLK
def cM:Nat->Int->Int->yU->Int->Int->yU->Option (yU×Tm×Int)|0,_,_,_,_,_,_=>none|f+1,d,e,g,b,c,a=>if decide (e<d)then if b !=3 then some ([],(Tm.mk 0 0 []),6)else zS a 0>>=λx10=>yX 40 g [x10]>>=λl12=>zS a 1>>=λx14=>cM f d (xC (e+1)) l12 x14.k x14.n x14.sub else some (g,(Tm.mk b c a),0)
def zCm(f:Nat)(m:Tm)(d:Int):Option (yU×Tm×Int):=cG f m>>=λr1=>if r1 then if decide (d<0)then some ([],(Tm.mk 0 0 []),5)else if decide (d>24)then some ([],(Tm.mk 0 0 []),2)else e64 f m>>=λr6=>cM f d 0 [] r6.k r6.n r6.sub else some ([],(Tm.mk 0 0 []),5)
theorem zUC:∀f:Nat,∀d e g b c a,Lz (cM f d e g b c a) 0 f160 (pt 65461 f160) (λj=>sp j 45 0 [(5,.mp 0 0),(7,zN zA g (.st 0 3)),(8,.mp 1 0),(24,ai d),(25,ai e)]) ⟨[(0,.cells [ai 0,ai 0,zN zA ([]:yU) .nl]),(1,.cells [ai b,ai c,zN zA a .no])],2,[0],1,[]⟩ (λr=>.tup [.sl (zC zA r.1) r.1.length .no,yZ r.2.1,ai r.2.2]) (λ_=>[]) 0 [.blk 1,.seq (pt 1023 f160)]:=xX (λ_ _ _ _ _ _=>lN) λf ih=>λd e g b c a=>lw λ_=>rB 0 (rB 1 (lE 1)<|rA 1 (xP (o:=.no)) λx10=>rS (oS 1 (xJ xY [x10]))<|rW (λh13=>oP 0 (vQ h13 (by simp))) λ_=>rA 1 (xP (o:=.no)) λ_=>lH 3 [] [0,1] [1] [5,7,8,24,25] (ih _ _ _ _ _ _))<|lE 2
theorem zRt{f m d}:Cz (zCm f m d) 160 [] [yZ m,ai d] (λr=>.tup [.sl (zC zA r.1) r.1.length .no,yZ r.2.1,ai r.2.2]) (λ_=>[]) 0:=fw func160<|rK 1 [] aR (λ_=>rB 1 (fE 1)<|rB 0 (fE 1)<|rC 1 [] c64 λ_=>fH 1 [(none,7,3)] [1,2] [0] [5,7,8,24,25] (zUC _ _ _ _ _ _ _)) λ_=>fE 2
def cO:Nat->Tm->Int->Int->Int->yU->Option (yU×Tm×Int)|0,_,_,_,_,_=>none|e+1,d,f,b,c,a=>if b==3 then if(a.length:Int)==2 then if decide (f<=24)then zS a 1>>=λx4=>cO e d (xC (f+1)) x4.k x4.n x4.sub else zCm e d f>>=λr6=>some (r6.1,r6.2.1,r6.2.2)else zCm e d f>>=λr8=>some (r8.1,r8.2.1,r8.2.2)else zCm e d f>>=λr10=>some (r10.1,r10.2.1,r10.2.2)
def zJJ(e:Nat)(d:Tm):Option (yU×Tm×Int):=cO e d 0 d.k d.n d.sub
theorem zUD:∀e:Nat,∀d f b c a,Lz (cO e d f b c a) 0 f119 (pt 4021 f119) (λj=>sp j 34 0 [(1,.mp 0 0),(3,.mp 1 0),(5,ai f),(6,.mp 2 0)]) ⟨[(0,.cells [ai d.k,ai d.n,zN zA d.sub .no]),(1,.cells [ai 0,ai 0,zN zA ([]:yU) .nl]),(2,.cells [ai b,ai c,zN zA a .no])],3,[],0,[]⟩ (λr=>.tup [.sl (zC zA r.1) r.1.length .no,yZ r.2.1,ai r.2.2]) (λ_=>[]) 0 [.blk 0,.seq (pt 63 f119)]:=xX (λ_ _ _ _ _=>lN) λe ih=>λd f b c a=>lw λ_=>rB 1 (rB 2 (rB 0 (rA 4 (xP (o:=.no)) λ_=>lH 2 [] [0,1,3] [] [1,3,5,6] (ih _ _ _ _ _))<|rC 1 [] zRt λ_=>lE 4)<|rC 1 [] zRt λ_=>lE 4)<|rC 1 [] zRt λ_=>lE 4
theorem zUE{e d}:Cz (zJJ e d) 119 [] [yZ d] (λr=>.tup [.sl (zC zA r.1) r.1.length .no,yZ r.2.1,ai r.2.2]) (λ_=>[]) 0:=fw func119<|fH 2 [] [0,1,2] [] [1,3,5,6] (zUD _ _ _ _ _ _)
def cP:Nat->Int->Int->(Tm×yU)->Int->Option (Bool)
 |0,_,_,_,_=>none|d+1,b,c,r1,a=>if decide (a<b)then zS r1.2 a>>=λx7=>if x7.k !=1 then some false else if x7.n !=(xC ((xC (c-1))-a))then some false else cP d b c r1 (xC (a+1))else some true
def zNU(d:Nat)(e:Tm)(f b g c:Int):Option (Bool):=B9 d e>>=λr1=>if r1.1.k !=6 then some false else if r1.1.n !=f then some false else if(r1.2.length:Int)!=(xC (b+g))then some false else cP d b c r1 0
theorem zUF:∀d:Nat,∀b c r1 a,Lz (cP d b c r1 a) 0 f164 (pt 16309 f164) (λj=>sp j 59 0 [(4,ai c),(12,zN zA r1.2 .no),(36,ai b),(37,ai a)]) ⟨[],0,[],0,[]⟩ (λr=>ab r) (λ_=>[]) 0 [.blk 0,.seq (pt 255 f164)]:=xX (λ_ _ _ _=>lN) λd ih=>λb c r1 a=>lw λ_=>rB 0 (rH λ_ h8=>rS (oA 0 (xP (o:=.no) h8))<|rB 1 (lE 0)<|rS (oA 0 (xP (o:=.no) h8))<|rB 3 (lE 0)<|lH 1 [] [] [] [4,12,36,37] (ih _ _ _ _))<|lE 0
theorem zYg{d e f b g c}:Cz (zNU d e f b g c) 164 [] [yZ e,ai f,ai b,ai g,ai c] (λr=>ab r) (λ_=>[]) 0:=fw func164<|rC 1 [] zGI λ_=>rB 4 (fE 0)<|rB 1 (fE 0)<|rB 2 (fE 0)<|fH 0 [] [] [] [4,12,36,37] (zUF _ _ _ _ _)
def mM:Nat->Tm->Option (List Tm×Tm)|0,t=>some ([],t)|n+1,.mk k _ [a,b]=>if k=3 then(mM n b).map λr=>(a::r.1,r.2)else none|_+1,_=>none
theorem cQ(n:Nat)(m:Int)(a b:Tm):mM (n+1) (.mk 3 m [a,b])=(mM n b).map λr=>(a::r.1,r.2):=by rw[mM,if_pos rfl]
theorem eN{n:Nat}{t:Tm}(h:t.k≠3):mM (n+1) t=none:=by
 unfold mM;split;·rename_i h1;cases h1
 ·rename_i h1;exact if_neg h
 ·rfl
theorem nR{t:Tm}(hg:xQ t=true)(h:t.k=3):∃a b,t=.mk 3 t.n [a,b]/\xQ a=true/\xQ b=true:=by obtain⟨k,n,l⟩:=t;have hh:=uB hg;have hs:=tR hh.1;replace h:k=3:=h;subst h;obtain⟨a,b,rfl⟩:=zQR (hs.2.2.2.2.2.1 (.inl rfl)).1;have hc:=wU hh.2;exact⟨a,b,rfl,hc.1,(wU hc.2).1⟩
def zEI(acc:List Tm):Option (List Tm×Tm)->List Tm×Tm×Int|none=>([],zT,6)|some r=>(acc++r.1,r.2,0)
theorem zNV(N:Nat)(hN:N<=24):∀(m v:Nat)(acc:List Tm)(x:Tm),v+m=N->xQ x=true->acc.length<=v->zF (λq=>cM q (N:Int) (v:Int) acc x.k x.n x.sub) (zEI acc (mM m x)):=by intro m;induction m with|zero=>intro v acc x hm hg ha;refine zF.succ ?_;simp only[cM];refine zF.ifF (decide_eq_false (by omega)) (zF.ret.eq ?_);rw[mM,zEI,sX];simp|succ m ih=>
 intro v acc x hm hg ha;refine zF.succ ?_;simp only[cM];refine zF.ifT (decide_eq_true (by omega)) ?_;by_cases h:x.k=3;·obtain⟨a,b,hx,hga,hgb⟩:=nR hg h;refine zF.ifF (by simp[h]) ?_;rw[hx,cQ];refine zF.pure (a:=a) rfl (zF.pure (yF (by simp<;>omega)) (zF.pure (a:=b) rfl ?_));rw[zU v (by omega)];refine(ih (v+1) (acc++[a]) b (by omega) hgb (by simp<;>omega)).eq ?_;cases mM m b<;>simp[zEI]
 ·rw[eN h,zEI];exact zF.ifT (by simp[h]) zF.ret
def uY(t:Tm)(n:Int):List Tm×Tm×Int:=if zG t=true then(if n<0 then([],zT,5)else if n>24 then([],zT,2)else zEI [] (mM n.toNat t))else([],zT,5)
theorem K3(t:Tm)(n:Int)(ho:t.Ok):zF (λq=>zCm q t n) (uY t n):=by
 simp only[zCm];refine(xM t ho).bind ?_;unfold uY;by_cases h:zG t=true
 ·rw[if_pos h];refine zF.ifT h ?_;by_cases h1:n<0;·rw[if_pos h1];exact zF.ifT (decide_eq_true h1) zF.ret
  ·rw[if_neg h1];refine zF.ifF (decide_eq_false h1) ?_;by_cases h2:n>24;·rw[if_pos h2];exact zF.ifT (decide_eq_true h2) zF.ret
   ·rw[if_neg h2];refine zF.ifF (decide_eq_false h2) ((sG t ho).bind ?_);unfold nZ;rw[if_pos h];have:=zNV n.toNat (by omega) n.toNat 0 [] t (by omega) (zL h).2.2 (by simp);rw[show((n.toNat:Nat):Int)=n by omega]at this;exact this
 ·rw[if_neg h];exact zF.ifF (by simpa using h) zF.ret
def uJ:Tm->Nat|.mk k _ [_,b]=>if k=3 then uJ b+1 else 0|_=>0
theorem gH(m:Int)(a b:Tm):uJ (.mk 3 m [a,b])=uJ b+1:=by rw[uJ,if_pos rfl]
theorem zAf{t:Tm}(h:t.k≠3):uJ t=0:=by
 unfold uJ;split;·exact if_neg h
 ·rfl
theorem zRs{t:Tm}(h:t.sub.length≠2):uJ t=0:=by
 unfold uJ;split;·exact absurd rfl h
 ·rfl
def xG(t:Tm):List Tm×Tm×Int:=uY t ((min (uJ t) 25:Nat):Int)
theorem zNW(p:Tm)(ho:p.Ok):∀(m v:Nat)(x:Tm),v+m=25->zF (λq=>cO q p (v:Int) x.k x.n x.sub) (uY p ((min (v+uJ x) 25:Nat):Int)):=by intro m;induction m with|zero=>
 intro v x hm;refine zF.succ ?_;simp only[cO];have hv:v=25:=by omega
 subst hv;have hsp:zF (λq=>zCm q p ((25:Nat):Int)>>=λr6=>some (r6.1,r6.2.1,r6.2.2)) (uY p ((min (25+uJ x) 25:Nat):Int)):=((K3 p _ ho).bind zF.ret).eq (by rw[show min (25+uJ x) 25=25 by omega]);exact zF.iff (λ_=>zF.iff (λ_=>zF.ifF rfl hsp) λ_=>hsp) λ_=>hsp|succ m ih=>
 intro v x hm;refine zF.succ ?_;simp only[cO];have hsp:uJ x=0->zF (λq=>zCm q p (v:Int)>>=λr6=>some (r6.1,r6.2.1,r6.2.2)) (uY p ((min (v+uJ x) 25:Nat):Int)):=λh=>((K3 p _ ho).bind zF.ret).eq (by rw[h,show min (v+0) 25=v by omega]);by_cases h3:x.k=3
 ·refine zF.ifT (by simp[h3]) ?_;by_cases h2:x.sub.length=2
  ·refine zF.ifT (by simp[h2]) (zF.ifT (decide_eq_true (by omega)) ?_);obtain⟨k,n,l⟩:=x;replace h3:k=3:=h3;subst h3;obtain⟨a,b,rfl⟩:=zQR h2;refine zF.pure (a:=b) rfl ?_;rw[zU v (by omega),gH];exact(ih (v+1) b (by omega)).eq (by rw[show v+1+uJ b=v+(uJ b+1)by omega])
  ·exact zF.ifF (by simp<;>omega) (hsp (zRs h2))
 ·exact zF.ifF (by simp[h3]) (hsp (zAf h3))
theorem K4(t:Tm)(ho:t.Ok):zF (λq=>zJJ q t) (xG t):=by simp only[zJJ];exact(zNW t ho 25 0 t rfl).eq (by unfold xG;simp)
theorem Q9:∀(n:Nat)(t:Tm)(r:List Tm×Tm),xQ t=true->mM n t=some r->r.1.length=n/\uJ t=n+uJ r.2/\(xQ r.2=true/\r.2.nodes<=t.nodes/\r.2.high<=t.high)/\∀x∈r.1,xQ x=true/\x.nodes<=t.nodes/\x.high<=t.high
 |0,t,r,hg,h=>by rw[mM]at h;cases h;exact⟨rfl,by simp,⟨hg,Nat.le_refl _,Nat.le_refl _⟩,λx hx=>by cases hx⟩|n+1,t,r,hg,h=>by
  by_cases h3:t.k=3
  ·obtain⟨a,b,hx,hga,hgb⟩:=nR hg h3;rw[hx]at h⊢;rw[cQ]at h;obtain⟨r',h1,rfl⟩:=Option.map_eq_some_iff.1 h;have ih:=Q9 n b r' hgb h1;rw[gH];simp only[Tm.nodes,yW,Tm.high,uH];refine⟨by simp[ih.1],by omega,⟨ih.2.2.1.1,by omega,by omega⟩,λx hx=>?_⟩;rcases List.mem_cons.1 hx with rfl|hx;·exact⟨hga,by omega,by omega⟩
   ·have:=ih.2.2.2 x hx;exact⟨this.1,by omega,by omega⟩
  ·rw[eN h3]at h;cases h
theorem zRr:∀t:Tm,xQ t=true->∀n≤uJ t,∃r,mM n t=some r:=by intro t hg n;induction n generalizing t with|zero=>intro _;exact⟨_,rfl⟩|succ n ih=>
 intro h;by_cases h3:t.k=3
 ·obtain⟨a,b,hx,hga,hgb⟩:=nR hg h3;rw[hx,gH]at h;obtain⟨r,hr⟩:=ih b hgb (by omega);exact⟨_,by rw[hx,cQ,hr];rfl⟩
 ·rw[zAf h3]at h;omega
theorem zCY{t:Tm}{n:Int}{l:List Tm}{y:Tm}(h:uY t n=(l,y,0)):zG t=true/\0<=n/\n<=24/\(l.length:Int)=n/\uJ t=l.length+uJ y/\zG y=true/\∀x∈l,zG x=true:=by
 unfold uY at h;split at h
 ·rename_i hs;split at h;·simp at h
  ·split at h;·simp at h
   ·cases hr:mM n.toNat t with|none=>rw[hr]at h;simp[zEI]at h|some r=>rw[hr]at h;simp only[zEI,List.nil_append,Prod.mk.injEq,and_true]at h;obtain⟨rfl,rfl⟩:=h;have hsp:=zL hs;have:=Q9 _ _ _ hsp.2.2 hr;refine⟨hs,by omega,by omega,by omega,by omega,gG (by omega) (by omega) this.2.2.1.1,λx hx=>?_⟩;have hx:=this.2.2.2 x hx;exact gG (by omega) (by omega) hx.1
 ·simp at h
theorem pK{t:Tm}{l:List Tm}{y:Tm}(h:xG t=(l,y,0)):zG t=true/\l.length=uJ t/\l.length<=24/\uJ y=0/\zG y=true/\∀x∈l,zG x=true:=by have:=zCY h;refine⟨this.1,by omega,by omega,by omega,this.2.2.2.2.2.1,this.2.2.2.2.2.2⟩
def zGQ:List Tm->Int->Bool|[],_=>true|a::l,n=>a.k==1&&a.n==n&&zGQ l (n-1)
def pY(t:Tm)(of pars more binders:Int):Bool:=(yK t).k==6&&(yK t).n==of&&((xF t).length:Int)==pars+more&&zGQ ((xF t).take pars.toNat) (binders-1)
theorem zGR(p:Tm×List Tm)(P:Nat)(binders:Int)(hP:P<=p.2.length)(hl:p.2.length<=8192)(hb:-1152921504606846976<=binders/\binders<=1152921504606846976):∀(m v:Nat),v+m=P->zF (λq=>cP q (P:Int) binders p (v:Int)) (zGQ ((p.2.take P).drop v) (binders-1-v)):=by intro m;induction m with|zero=>intro v hm;refine zF.succ ?_;simp only[cP];refine zF.ifF (decide_eq_false (by omega)) (zF.ret.eq ?_);rw[List.drop_eq_nil_of_le (by simp<;>omega),zGQ]|succ m ih=>
 intro v hm;refine zF.succ ?_;simp only[cP];have hv:v<(p.2.take P).length:=by simp<;>omega
 have hd:=List.drop_eq_getElem_cons hv;have hg:zS p.2 (v:Int)=some (p.2.take P)[v]:=by unfold zS;rw[if_pos (by omega),show(v:Int).toNat=v by omega,List.getElem?_eq_getElem (by omega)];simp
 generalize(p.2.take P)[v]=x at hd hg;refine zF.ifT (decide_eq_true (by omega)) (zF.pure hg ?_);rw[hd,zGQ,yS (x:=binders-1) (by omega) (by omega),yS (x:=binders-1-v) (by omega) (by omega)];by_cases h1:x.k=1
 ·refine zF.ifF (by simp[h1]) ?_;by_cases h2:x.n=binders-1-v
  ·refine zF.ifF (by simp[h2]) ?_;rw[zU v (by omega)];refine(ih (v+1) (by omega)).eq ?_;rw[show binders-1-((v+1:Nat):Int)=binders-1-v-1 by omega];simp[h1,h2]
  ·exact zF.ifT (by simp[h2]) (zF.ret.eq (by simp[h2]))
 ·exact zF.ifT (by simp[h1]) (zF.ret.eq (by simp[h1]))
theorem C1(t:Tm)(of pars more binders:Int)(hs:zG t=true)(h0:0<=pars/\pars<=1152921504606846976)(h1:0<=more/\more<=1152921504606846976)(hb:-1152921504606846976<=binders/\binders<=1152921504606846976):zF (λq=>zNU q t of pars more binders) (pY t of pars more binders):=by
 simp only[zNU];refine(kD t hs).bind ?_;unfold pY;by_cases h2:(yK t).k=6
 ·refine zF.ifF (by simp[h2]) ?_;by_cases h3:(yK t).n=of
  ·refine zF.ifF (by simp[h3]) ?_;rw[yS (x:=pars+more) (by omega) (by omega)];by_cases h4:((xF t).length:Int)=pars+more
   ·refine zF.ifF (by simp[h4]) ?_;have hl:=sB t (zL hs).2.2;have hn:=(zL hs).1;have:=zGR (yK t,xF t) pars.toNat binders (by show _<=(xF t).length;omega) (by show(xF t).length<=_;omega) hb pars.toNat 0 (by omega);rw[show((pars.toNat:Nat):Int)=pars by omega]at this;exact this.eq (by simp[h2,h3,h4])
   ·exact zF.ifT (by simp[h4]) (zF.ret.eq (by simp[h4]))
  ·exact zF.ifT (by simp[h3]) (zF.ret.eq (by simp[h3]))
 ·exact zF.ifT (by simp[h2]) (zF.ret.eq (by simp[h2]))
def zRq(b:Nat)(a:Int):Option (Bool):=if decide (a>=0)then if decide (a<=1114111)then if decide (a<55296)then some true else some (decide (a>57343))else some false else some false
theorem yBL{b a}:Cz (zRq b a) 195 [] [ai a] (λr=>ab r) (λ_=>[]) 0:=fw func195<|rB 0 (rB 0 (rB 0 (fE 0)<|fE 1)<|fE 0)<|fE 0
def zUG(b:Nat)(a:U8):Option (Int×Int):=if decide (a<128)then some (1,(xC (a)))else if decide (a>=192)then if decide (a<224)then some (2,(xC ((IntKind.u8.wrap ((BitVec.ofInt (IntKind.bits .u8) a&&&BitVec.ofInt (IntKind.bits .u8) 31).toNat:Nat)))))else if decide (a>=224)then if decide (a<240)then some (3,(xC ((IntKind.u8.wrap ((BitVec.ofInt (IntKind.bits .u8) a&&&BitVec.ofInt (IntKind.bits .u8) 15).toNat:Nat)))))else if decide (a>=240)then if decide (a<248)then some (4,(xC ((IntKind.u8.wrap ((BitVec.ofInt (IntKind.bits .u8) a&&&BitVec.ofInt (IntKind.bits .u8) 7).toNat:Nat)))))else some (0,0)else some (0,0)else if decide (a>=240)then if decide (a<248)then some (4,(xC ((IntKind.u8.wrap ((BitVec.ofInt (IntKind.bits .u8) a&&&BitVec.ofInt (IntKind.bits .u8) 7).toNat:Nat)))))else some (0,0)else some (0,0)else if decide (a>=224)then if decide (a<240)then some (3,(xC ((IntKind.u8.wrap ((BitVec.ofInt (IntKind.bits .u8) a&&&BitVec.ofInt (IntKind.bits .u8) 15).toNat:Nat)))))else if decide (a>=240)then if decide (a<248)then some (4,(xC ((IntKind.u8.wrap ((BitVec.ofInt (IntKind.bits .u8) a&&&BitVec.ofInt (IntKind.bits .u8) 7).toNat:Nat)))))else some (0,0)else some (0,0)else if decide (a>=240)then if decide (a<248)then some (4,(xC ((IntKind.u8.wrap ((BitVec.ofInt (IntKind.bits .u8) a&&&BitVec.ofInt (IntKind.bits .u8) 7).toNat:Nat)))))else some (0,0)else some (0,0)
theorem yDX{b a}:Cz (zUG b a) 219 [] [.val (.int .u8 a)] (λr=>.tup [ai r.1,ai r.2]) (λ_=>[]) 0:=fw func219<|rB 0 (fE 1)<|rB 0 (rB 0 (fE 2)<|rB 0 (rB 0 (fE 2)<|rB 0 (rB 0 (fE 2)<|fE 0)<|fE 0)<|rB 0 (rB 0 (fE 2)<|fE 0)<|fE 0)<|rB 0 (rB 0 (fE 2)<|rB 0 (rB 0 (fE 2)<|fE 0)<|fE 0)<|rB 0 (rB 0 (fE 2)<|fE 0)<|fE 0
def zUH(b:Nat)(a:Int):Option (Int):=if decide (a>=65536)then some 4 else if decide (a>=2048)then some 3 else if decide (a>=128)then some 2 else some 1
theorem yDY{b a}:Cz (zUH b a) 220 [] [ai a] (λr=>ai r) (λ_=>[]) 0:=fw func220<|rB 0 (fE 3)<|rB 0 (fE 2)<|rB 0 (fE 1)<|fE 0
def cR:Nat->ByteArray->Int->(Int×Int)->Int->Int->Option (Int×Int×Int)
 |0,_,_,_,_,_=>none|c+1,b,a,r5,d,e=>if decide (e<r5.1)then b9 b (xC (a+e))>>=λx10=>if(IntKind.u8.wrap ((BitVec.ofInt (IntKind.bits .u8) x10&&&BitVec.ofInt (IntKind.bits .u8) 192).toNat:Nat))!=128 then some (0,0,1)else cR c b a r5 (IntKind.i64.wrap ((BitVec.ofInt (IntKind.bits .i64) (xC (d*2^(min (Int.toNat 6) (IntKind.bits .i64))))|||BitVec.ofInt (IntKind.bits .i64) (xC ((IntKind.u8.wrap ((BitVec.ofInt (IntKind.bits .u8) x10&&&BitVec.ofInt (IntKind.bits .u8) 63).toNat:Nat))))).toNat:Nat)) (xC (e+1))else zRq c d>>=λr13=>if r13 then zUH c d>>=λr16=>if r16 !=r5.1 then some (0,0,1)else some (d,r5.1,0)else some (0,0,1)
def zUI(c:Nat)(b:ByteArray)(a:Int):Option (Int×Int×Int):=if decide (a<0)then some (0,0,1)else if decide (a>=(b.size:Int))then some (0,0,1)else b9 b a>>=λx3=>zUG c x3>>=λr5=>if r5.1==0 then some (0,0,1)else if decide (r5.1>(xC ((b.size:Int)-a)))then some (0,0,1)else cR c b a r5 r5.2 1
theorem zUJ:∀c:Nat,∀b a r5 d e,Lz (cR c b a r5 d e) 0 f193 (pt 65461 f193) (λj=>sp j 66 0 [(0,at' b),(1,ai a),(7,ai r5.1),(8,ai d),(9,ai e)]) ⟨[],0,[],0,[]⟩ (λr=>.tup [ai r.1,ai r.2.1,ai r.2.2]) (λ_=>[]) 0 [.blk 0,.seq (pt 1023 f193)]:=xX (λ_ _ _ _ _=>lN) λc ih=>λb a r5 d e=>lw λ_=>rB 0 (rA 1 zQA λ_=>rB 1 (lE 0)<|lH 5 [] [] [] [0,1,7,8,9] (ih _ _ _ _ _))<|rK 0 [] yBL (λ_=>rC 1 [] yDY λ_=>rB 0 (lE 0)<|lE 0) λ_=>lE 1
theorem yDZ{c b a}:Cz (zUI c b a) 193 [] [at' b,ai a] (λr=>.tup [ai r.1,ai r.2.1,ai r.2.2]) (λ_=>[]) 0:=fw func193<|rB 0 (fE 0)<|rB 1 (fE 0)<|rA 0 zQA λ_=>rC 0 [] yDX λ_=>rB 2 (fE 0)<|rB 2 (fE 0)<|fH 0 [] [] [] [0,1,7,8,9] (zUJ _ _ _ _ _ _)
def cS:Nat->ByteArray->yD->Int->Option (yD×Int×Int)|0,_,_,_=>none|b+1,a,d,c=>if decide (c<(a.size:Int))then zUI b a c>>=λr3=>if r3.2.2 !=0 then some ([],c,r3.2.2)else yX 8 d [r3.1]>>=λl6=>cS b a l6 (xC (c+r3.2.1))else some (d,(a.size:Int),0)
def zUK(b:Nat)(a:ByteArray):Option (yD×Int×Int):=if decide ((a.size:Int)>65535)then some ([],0,2)else cS b a [] 0
theorem zUL:∀b:Nat,∀a d c,Lz (cS b a d c) 0 f155 (pt 16309 f155) (λj=>sp j 38 0 [(0,at' a),(5,zN zZ d (.st 0 1)),(6,ai c)]) ⟨[],0,[0],1,[]⟩ (λr=>.tup [.sl (zC zZ r.1) r.1.length .no,ai r.2.1,ai r.2.2]) (λ_=>[]) 0 [.blk 0,.seq (pt 255 f155)]:=xX (λ_ _ _=>lN) λb ih=>λa d c=>lw λ_=>rB 1 (rC 0 [] yDZ λ_=>rB 3 (lE 0)<|rW (λh7=>oP 1 (qO h7 (by simp))) λ_=>lH 1 [] [] [1] [0,5,6] (ih _ _ _))<|lE 1
theorem yEz{b a}:Cz (zUK b a) 155 [] [at' a] (λr=>.tup [.sl (zC zZ r.1) r.1.length .no,ai r.2.1,ai r.2.2]) (λ_=>[]) 0:=fw func155<|rB 1 (fE 0)<|fH 0 [(none,5,1)] [] [0] [0,5,6] (zUL _ _ _ _)
def zUM(b:Nat)(a:ByteArray):Option (Bool):=if a.toList==(⟨#[100,97,116,97]⟩:ByteArray).toList then some true else if a.toList==(⟨#[114,101,99,111,114,100]⟩:ByteArray).toList then some true else if a.toList==(⟨#[100,101,102]⟩:ByteArray).toList then some true else if a.toList==(⟨#[83,101,116]⟩:ByteArray).toList then some true else some false
theorem yEy{b a}:Cz (zUM b a) 156 [] [at' a] (λr=>ab r) (λ_=>[]) 0:=fw func156<|rB 0 (fE 0)<|rB 0 (fE 0)<|rB 0 (fE 0)<|rB 0 (fE 0)<|fE 0
def zUN(b:Nat)(a:Int):Option (Bool):=if a==40 then some true else if a==41 then some true else if a==123 then some true else if a==125 then some true else if a==58 then some true else if a==61 then some true else if a==46 then some true else if a==44 then some true else if a==59 then some true else if a==124 then some true else if a==92 then some true else if a==45 then some true else if a==62 then some true else if a==955 then some true else if a==8594 then some true else some false
theorem yEx{b a}:Cz (zUN b a) 196 [] [ai a] (λr=>ab r) (λ_=>[]) 0:=fw func196<|rB 0 (fE 0)<|rB 0 (fE 0)<|rB 0 (fE 0)<|rB 0 (fE 0)<|rB 0 (fE 0)<|rB 0 (fE 0)<|rB 0 (fE 0)<|rB 0 (fE 0)<|rB 0 (fE 0)<|rB 0 (fE 0)<|rB 0 (fE 0)<|rB 0 (fE 0)<|rB 0 (fE 0)<|rB 0 (fE 0)<|rB 0 (fE 0)<|fE 0
def zRp(b:Nat)(a:Int):Option (Bool):=if decide (a<128)then if decide (a>=97)then if decide (a<=122)then some true else if decide (a>=65)then some (decide (a<=90))else some false else if decide (a>=65)then some (decide (a<=90))else some false else zRq b a>>=λr6=>if r6 then zUN b a>>=λr9=>if r9 then some false else if a !=160 then if decide (a<8192)then some true else some (decide (a>8303))else some false else some false
theorem yBM{b a}:Cz (zRp b a) 158 [] [ai a] (λr=>ab r) (λ_=>[]) 0:=fw func158<|rB 0 (rB 0 (rB 0 (fE 0)<|rB 0 (fE 1)<|fE 0)<|rB 0 (fE 1)<|fE 0)<|rK 0 [] yBL (λ_=>rK 0 [] yEx (λ_=>fE 1) λ_=>rB 1 (rB 0 (fE 0)<|fE 1)<|fE 0) λ_=>fE 0
def zUO(b:Nat)(a:Int):Option (Bool):=if decide (a>=48)then some (decide (a<=57))else some false
theorem yEw{b a}:Cz (zUO b a) 194 [] [ai a] (λr=>ab r) (λ_=>[]) 0:=fw func194<|rB 0 (fE 1)<|fE 0
def zUP(b:Nat)(a:Int):Option (Bool):=zRp b a>>=λr1=>if r1 then some true else zUO b a>>=λr4=>if r4 then some true else if a==95 then some true else some (a==39)
theorem yEv{b a}:Cz (zUP b a) 157 [] [ai a] (λr=>ab r) (λ_=>[]) 0:=fw func157<|rK 0 [] yBM (λ_=>fE 0) λ_=>rK 0 [] yEw (λ_=>fE 0) λ_=>rB 0 (fE 0)<|fE 1
def cT:Nat->(yD×Int×Int)->Int->Option (Bool)
 |0,_,_=>none|b+1,r1,a=>if decide (a<(r1.1.length:Int))then zS r1.1 a>>=λx10=>zUP b x10>>=λr12=>if r12 then cT b r1 (xC (a+1))else some false else zS r1.1 0>>=λx15=>zRp b x15>>=λr17=>if r17 then some true else if x15==95 then some (decide ((r1.1.length:Int)>1))else some false
def zNX(b:Nat)(c:ByteArray):Option (Bool):=zUK b c>>=λr1=>if r1.2.2 !=0 then some false else if(r1.1.length:Int)==0 then some false else if decide ((c.size:Int)>40)then some false else zUM b c>>=λr6=>if r6 then some false else cT b r1 0
theorem zUQ:∀b:Nat,∀r1 a,Lz (cT b r1 a) 0 f113 (pt 16309 f113) (λj=>sp j 55 0 [(3,zN zZ r1.1 .no),(30,zN zZ r1.1 .no),(31,ai (r1.1.length:Int)),(32,ai a)]) ⟨[],0,[],0,[]⟩ (λr=>ab r) (λ_=>[]) 0 [.blk 0,.seq (pt 255 f113)]:=xX (λ_ _=>lN) λb ih=>λr1 a=>lw λ_=>rB 0 (rA 0 (oV (o:=.no)) λ_=>rK 1 [] yEv (λ_=>lH 2 [] [] [] [3,30,31,32] (ih _ _)) λ_=>lE 1)<|rH λ_ h16=>rS (oA 0 (oV (o:=.no) h16))<|rK 1 [] yBM (λ_=>lE 0) λ_=>rS (oA 0 (oV (o:=.no) h16))<|rB 1 (lE 2)<|lE 0
theorem yEu{b c}:Cz (zNX b c) 113 [] [at' c] (λr=>ab r) (λ_=>[]) 0:=fw func113<|rC 0 [] yEz λ_=>rB 3 (fE 0)<|rB 1 (fE 0)<|rB 1 (fE 0)<|rK 0 [] yEy (λ_=>fE 0) λ_=>fH 1 [] [] [] [3,30,31,32] (zUQ _ _ _)
def R0:Nat->(List ByteArray)->Int->(List (ByteArray×Int))->Option (Bool)|0,_,_,_=>none|c+1,b,d,a=>if decide (d<(b.length:Int))then zS b d>>=λx2=>if decide ((zGt a x2)>0)then some false else R0 c b (xC (d+1)) (b8 a x2 (xC ((zGt a x2)+1)))else some true
def e89(c:Nat)(b:List ByteArray):Option (Bool):=R0 c b 0 ([]:List (ByteArray×Int))
theorem zYf:∀c:Nat,∀b d a,Lz (R0 c b d a) 0 f89 (pt 4021 f89) (λj=>sp j 22 0 [(3,.obj 0),(7,zN P6 b .no),(8,ai (b.length:Int)),(9,ai d)]) ⟨[(0,zEd a)],1,[],0,[]⟩ (λr=>ab r) (λ_=>[]) 0 [.blk 0,.seq (pt 63 f89)]:=xX (λ_ _ _=>lN) λc ih=>λb d a=>lw λ_=>rB 0 (rA 0 (yBC (o:=.no)) λx2=>rS (oL 1 (zXs a x2))<|rB 0 (lE 0)<|rS (oL 0 (zXs a x2))<|rS (oU 1 (yBE a x2 (xC ((zGt a x2)+1))))<|lH 1 [] [0] [] [3,7,8,9] (ih _ _ _))<|lE 0
theorem c89{c b}:Cz (e89 c b) 89 [] [zN P6 b .no] (λr=>ab r) (λ_=>[]) 0:=fw func89<|fH 1 [] [0] [] [3,7,8,9] (zYf _ _ _ _)
theorem zRo(c:Int):zH (λq=>zUG q c) λr=>0<=r.1/\r.1<=4:=by simp only[zUG];repeat'(first|exact zH.ret ⟨by simp,by simp⟩|refine zH.ite (λ_=>?_) (λ_=>?_))
theorem zNY(n:Int):zH (λq=>zUH q n) λ_=>True:=by simp only[zUH];repeat'(first|exact zH.ret trivial|refine zH.ite (λ_=>?_) (λ_=>?_))
theorem zAe(n:Int):zH (λq=>zRq q n) λ_=>True:=by simp only[zRq];repeat'(first|exact zH.ret trivial|refine zH.ite (λ_=>?_) (λ_=>?_))
theorem zGS{s:ByteArray}{i:Int}(h0:0<=i)(h1:i<s.size):∃c,b9 s i=some c:=by unfold b9;simp[h0,h1]
theorem zNZ(s:ByteArray)(a:Int)(w:Int×Int)(ha:0<=a)(hs:s.size<=65535)(hw:a+w.1<=s.size)(hw1:1<=w.1):∀(m:Nat)(i n:Int),1<=i->i+m=w.1->zH (λq=>cR q s a w n i) λr=>r.2.2=0->r.2.1=w.1:=by intro m;induction m with|zero=>intro i n hi hm;refine zH.succ ?_;simp only[cR];refine zH.ite (λh=>absurd (of_decide_eq_true h) (by omega)) λ_=>(zAe n).bind λb _=>?_;refine zH.ite (λ_=>(zNY n).bind λc _=>zH.ite (λ_=>zH.ret (by simp)) λ_=>zH.ret (by simp)) λ_=>zH.ret (by simp)|succ m ih=>intro i n hi hm;refine zH.succ ?_;simp only[cR];obtain⟨c,hc⟩:=zGS (s:=s) (i:=a+i) (by omega) (by omega);refine zH.ite (λ_=>zH.pure (a:=c) (by rw[yS (by omega) (by omega)];exact hc) (zH.ite (λ_=>zH.ret (by simp)) λ_=>?_)) λh=>absurd (of_decide_eq_false h) (by omega);rw[yS (x:=i+1) (by omega) (by omega)];exact ih (i+1) _ (by omega) (by omega)
theorem zRn(s:ByteArray)(a:Int)(ha:0<=a)(hs:s.size<=65535):zH (λq=>zUI q s a) λr=>r.2.2=0->1<=r.2.1/\a+r.2.1<=s.size:=by
 simp only[zUI];refine zH.ite (λ_=>zH.ret (by simp)) λ_=>zH.ite (λ_=>zH.ret (by simp)) λh=>?_;have h1:=of_decide_eq_false h;obtain⟨c,hc⟩:=zGS (s:=s) (i:=a) ha (by omega);refine zH.pure hc ((zRo c).bind λw hw=>zH.ite (λ_=>zH.ret (by simp)) λh2=>zH.ite (λ_=>zH.ret (by simp)) λh3=>?_);have h4:=of_decide_eq_false h3;rw[yS (by omega) (by omega)]at h4;have h5:w.1≠0:=by simpa using h2
 refine(zNZ s a w ha hs (by omega) (by omega) (w.1-1).toNat 1 w.2 (by omega) (by omega)).mono λr hr h6=>?_;have:=hr h6;omega
theorem zRm(s:ByteArray)(hs:s.size<=65535):∀(m:Nat)(a:Int)(acc:List Int),0<=a->a<=s.size->(s.size:Int)-a<=m->(acc.length:Int)<=a->zH (λq=>cS q s acc a) λr=>r.1.length<=65535:=by intro m;induction m with|zero=>intro a acc h0 h1 hm hl;refine zH.succ ?_;simp only[cS];refine zH.ite (λh=>absurd (of_decide_eq_true h) (by omega)) λ_=>zH.ret (by show acc.length<=65535;omega)|succ m ih=>intro a acc h0 h1 hm hl;refine zH.succ ?_;simp only[cS];refine zH.ite (λ_=>(zRn s a h0 hs).bind λr hr=>zH.ite (λ_=>zH.ret (by simp)) λh=>zH.pure (yF (by simp<;>omega)) ?_) λ_=>zH.ret (by show acc.length<=65535;omega);have:=hr (by simpa using h);rw[yS (by omega) (by omega)];exact ih (a+r.2.1) _ (by omega) (by omega) (by omega) (by simp;omega)
theorem zUR(s:ByteArray):zH (λq=>zUK q s) λr=>r.1.length<=65535:=by simp only[zUK];refine zH.ite (λ_=>zH.ret (by simp)) λh=>?_;have:=of_decide_eq_false h;exact zRm s (by omega) s.size 0 [] (by omega) (by omega) (by omega) (by simp)
theorem zRl(n:Int):zH (λq=>zUN q n) λ_=>True:=by simp only[zUN];repeat'(first|exact zH.ret trivial|refine zH.ite (λ_=>?_) (λ_=>?_))
theorem zAd(n:Int):zH (λq=>zRp q n) λ_=>True:=by simp only[zRp];repeat'(first|exact zH.ret trivial|refine zH.ite (λ_=>?_) (λ_=>?_)|refine zH.bind (zAe n) (λ_ _=>?_)|refine zH.bind (zRl n) (λ_ _=>?_))
theorem zOz(n:Int):zH (λq=>zUO q n) λ_=>True:=by simp only[zUO];repeat'(first|exact zH.ret trivial|refine zH.ite (λ_=>?_) (λ_=>?_))
theorem zOy(n:Int):zH (λq=>zUP q n) λ_=>True:=by simp only[zUP];repeat'(first|exact zH.ret trivial|refine zH.ite (λ_=>?_) (λ_=>?_)|refine zH.bind (zAd n) (λ_ _=>?_)|refine zH.bind (zOz n) (λ_ _=>?_))
theorem zGT(s:ByteArray):zH (λq=>zUM q s) λ_=>True:=by simp only[zUM];repeat'(first|exact zH.ret trivial|refine zH.ite (λ_=>?_) (λ_=>?_))
theorem X3(r1:List Int×Int×Int)(h0:0<r1.1.length)(h1:r1.1.length<=65535):∀(l:List Int)(v:Nat),r1.1.drop v=l->zH (λq=>cT q r1 (v:Int)) λ_=>True
 |[],v,hd=>by
  refine zH.succ ?_;simp only[cT];obtain⟨y,hy⟩:∃y,zS r1.1 0=some y:=⟨_,by unfold zS;rw[if_pos (by omega)];exact List.getElem?_eq_getElem h0⟩;refine zH.ite (λh=>?_) λ_=>zH.pure hy ?_;·rw[zY hd]at h;cases h
  ·repeat'(first|exact zH.ret trivial|refine zH.ite (λ_=>?_) (λ_=>?_)|refine zH.bind (zAd y) (λ_ _=>?_))|x::l,v,hd=>by
  have hlt:=yC hd;refine zH.succ ?_;simp only[cT];refine zH.ite (λ_=>zH.pure (zV hd) ((zOy x).bind λb _=>zH.ite (λ_=>?_) λ_=>zH.ret trivial)) λh=>?_
  ·rw[zU v (by omega)];exact X3 r1 h0 h1 l (v+1) (zR hd)
  ·rw[zX hd]at h;cases h
theorem zJK(s:ByteArray):zH (λq=>zNX q s) λ_=>True:=by simp only[zNX];refine(zUR s).bind λr hr=>zH.ite (λ_=>zH.ret trivial) λ_=>zH.ite (λ_=>zH.ret trivial) λh=>zH.ite (λ_=>zH.ret trivial) λ_=>(zGT s).bind λ_ _=>zH.ite (λ_=>zH.ret trivial) λ_=>?_;exact X3 r (by simp at h;exact List.length_pos_iff.2 h) hr r.1 0 rfl
theorem aU:∀(r l:List ByteArray)(v:Nat)(m:List (ByteArray×Int)),l.drop v=r->l.length<=65535->zH (λq=>R0 q l (v:Int) m) λ_=>True
 |[],l,v,m,hd,hl=>by refine zH.succ ?_;simp only[R0];refine zH.ite (λh=>?_) λ_=>zH.ret trivial;rw[zY hd]at h;cases h|x::r,l,v,m,hd,hl=>by
  have hlt:=yC hd;refine zH.succ ?_;simp only[R0];refine zH.ite (λ_=>zH.pure (zV hd) (zH.ite (λ_=>zH.ret trivial) λ_=>?_)) λh=>?_;·rw[zU v (by omega)];exact aU r l (v+1) _ (zR hd) hl
  ·rw[zX hd]at h;cases h
theorem zEJ(l:List ByteArray)(hl:l.length<=65535):zH (λq=>e89 q l) λ_=>True:=by simp only[e89];exact aU l l 0 _ rfl hl
def zRk(b:Nat)(a:Tm)(c:Int):Option (Bool):=e68 b a 0 c>>=λr1=>if r1 then e69 b a>>=λr4=>some ((r4.length:Int)==0)else some false
theorem yBO{b a c}:Cz (zRk b a c) 114 [] [yZ a,ai c] (λr=>ab r) (λ_=>[]) 0:=fw func114<|rK 1 [] c68 (λ_=>rC 1 [] c69 λ_=>fE 2) λ_=>fE 0
def zRj(b:Nat)(a:Tm):Option (Bool):=if a.k==0 then if a.n==0 then some ((a.sub.length:Int)==0)else some false else some false
theorem yBP{b a}:Cz (zRj b a) 159 [] [yZ a] (λr=>ab r) (λ_=>[]) 0:=fw func159<|rB 1 (rB 1 (fE 3)<|fE 0)<|fE 0
def cU:Nat->yD->Int->Int->Option (Bool)|0,_,_,_=>none|c+1,a,b,d=>if decide (d<(a.length:Int))then zS a d>>=λx2=>if x2 !=(xC (b+d))then some false else cU c a b (xC (d+1))else some true
def zRi(c:Nat)(a:yD)(b:Int):Option (Bool):=cU c a b 0
theorem zUS:∀c:Nat,∀a b d,Lz (cU c a b d) 0 f161 (pt 949 f161) (λj=>sp j 20 0 [(1,ai b),(7,zN zZ a .no),(8,ai (a.length:Int)),(9,ai d)]) ⟨[],0,[],0,[]⟩ (λr=>ab r) (λ_=>[]) 0 [.blk 0,.seq (pt 15 f161)]:=xX (λ_ _ _=>lN) λc ih=>λa b d=>lw λ_=>rB 0 (rA 0 (oV (o:=.no)) λ_=>rB 2 (lE 0)<|lH 1 [] [] [] [1,7,8,9] (ih _ _ _))<|lE 0
theorem yBQ{c a b}:Cz (zRi c a b) 161 [] [zN zZ a .no,ai b] (λr=>ab r) (λ_=>[]) 0:=fw func161<|fH 1 [] [] [] [1,7,8,9] (zUS _ _ _ _)
def zOx(d:Nat)(b:xH)(a c:Int):Option (Bool):=if decide (a>=0)then if decide (a<(b.length:Int))then zS b a>>=λx3=>some (x3.kind==c)else some false else some false
theorem zYe{d b a c}:Cz (zOx d b a c) 197 [] [zN xA b .no,ai a,ai c] (λr=>ab r) (λ_=>[]) 0:=fw func197<|rB 0 (rB 1 (rA 0 (wM (o:=.no)) λ_=>fE 2)<|fE 0)<|fE 0
def cV:Nat->xH->Int->yD->Int->Int->Option (Bool)
 |0,_,_,_,_,_=>none|f+1,c,d,b,e,a=>if decide (a<(b.length:Int))then zS b a>>=λx2=>zOx f c x2 e>>=λr4=>if r4 then zS c x2>>=λx7=>if x7.fam !=d then some false else if x7.place !=a then some false else cV f c d b e (xC (a+1))else some false else some true
def zRh(f:Nat)(c:xH)(d:Int)(b:yD)(e:Int):Option (Bool):=cV f c d b e 0
theorem zUT:∀f:Nat,∀c d b e a,Lz (cV f c d b e a) 0 f162 (pt 949 f162) (λj=>sp j 42 0 [(0,zN xA c .no),(1,ai d),(3,ai e),(11,zN zZ b .no),(12,ai (b.length:Int)),(13,ai a)]) ⟨[],0,[],0,[]⟩ (λr=>ab r) (λ_=>[]) 0 [.blk 0,.seq (pt 15 f162)]:=xX (λ_ _ _ _ _=>lN) λf ih=>λc d b e a=>lw λ_=>rB 0 (rA 0 (oV (o:=.no)) λ_=>rK 1 [] zYe (λ_=>rH λ_ h8=>rS (oA 1 (wM (o:=.no) h8))<|rB 1 (lE 0)<|rS (oA 0 (wM (o:=.no) h8))<|rB 1 (lE 0)<|lH 1 [] [] [] [0,1,3,11,12,13] (ih _ _ _ _ _)) λ_=>lE 1)<|lE 0
theorem yBR{f c d b e}:Cz (zRh f c d b e) 162 [] [zN xA c .no,ai d,zN zZ b .no,ai e] (λr=>ab r) (λ_=>[]) 0:=fw func162<|fH 1 [] [] [] [0,1,3,11,12,13] (zUT _ _ _ _ _ _)
def zUU(a:Nat)(c:xH)(b:Int):Option (Bool):=zS c b>>=λx1=>if decide (x1.pars<0)then some false else if decide (x1.inds<0)then some false else if decide (x1.pars>24)then some false else if decide (x1.inds>(xC (24-x1.pars)))then some false else if x1.fam !=0 then some false else if x1.place !=0 then some false else zRj a x1.body>>=λr9=>if r9 then zCm a x1.type (xC (x1.pars+x1.inds))>>=λr12=>if r12.2.2 !=0 then some false else if r12.2.1.k !=2 then some false else if r12.2.1.n !=x1.level then some false else if decide ((x1.cons.length:Int)>16)then some false else zRi a x1.cons (xC (b+1))>>=λr18=>if r18 then zRh a c b x1.cons 2>>=λr21=>if r21 then if(x1.fields.length:Int)==0 then some true else if x1.inds !=0 then some false else if(x1.cons.length:Int)!=1 then some false else zRi a x1.fields (xC (b+2))>>=λr27=>if r27 then zRh a c b x1.fields 4>>=λr30=>if r30 then zS c (xC (b+1))>>=λx33=>zJJ a x33.type>>=λr35=>if r35.2.2==0 then some ((r35.1.length:Int)==(xC (x1.pars+(x1.fields.length:Int))))else some false else some false else some false else some false else some false else some false
theorem yEt{a c b}:Cz (zUU a c b) 115 [] [zN xA c .no,ai b] (λr=>ab r) (λ_=>[]) 0:=fw func115<|rA 0 (wM (o:=.no)) λ_=>rB 3 (fE 0)<|rB 1 (fE 0)<|rB 1 (fE 0)<|rB 3 (fE 0)<|rB 1 (fE 0)<|rB 1 (fE 0)<|rK 1 [] yBP (λ_=>rC 5 [] zRt λ_=>rB 4 (fE 0)<|rB 1 (fE 0)<|rB 2 (fE 0)<|rB 2 (fE 0)<|rK 2 [] yBQ (λ_=>rK 2 [] yBR (λ_=>rB 3 (fE 0)<|rB 1 (fE 0)<|rB 2 (fE 0)<|rK 2 [] yBQ (λ_=>rK 2 [] yBR (λ_=>rA 2 (wM (o:=.no)) λ_=>rC 1 [] zUE λ_=>rB 4 (fE 6)<|fE 0) λ_=>fE 1) λ_=>fE 1) λ_=>fE 1) λ_=>fE 1) λ_=>fE 1
def jM(e:yI):Prop:=e.type.Ok/\e.body.Ok/\e.cons.length<=1152921504606846976/\e.fields.length<=1152921504606846976
def zE:yI:=yI.mk 0 ⟨#[]⟩ zT zT 0 0 0 0 0 [] []
def yA(l:List yI)(n:Int):yI:=(l[n.toNat]?).getD zE
theorem yT{l:List yI}{n:Int}(h0:0<=n)(h1:n<l.length):zS l n=some (yA l n):=by
 unfold zS yA;rw[if_pos h0];have:n.toNat<l.length:=by omega
 rw[List.getElem?_eq_getElem this];rfl
theorem nS{l:List yI}{n:Int}(h0:0<=n)(h1:n<l.length):yA l n∈l:=by
 unfold yA;have:n.toNat<l.length:=by omega
 rw[List.getElem?_eq_getElem this];exact List.getElem_mem this
def G5(l:List yI)(n kind:Int):Bool:=decide (0<=n)&&decide (n<l.length)&&(yA l n).kind==kind
theorem tL{l:List yI}{n kind:Int}(h:G5 l n kind=true):0<=n/\n<l.length/\(yA l n).kind=kind:=by unfold G5 at h;simp only[Bool.and_eq_true,decide_eq_true_eq,beq_iff_eq]at h;exact⟨h.1.1,h.1.2,h.2⟩
theorem zRg(l:List yI)(n kind:Int):zF (λq=>zOx q l n kind) (G5 l n kind):=by
 simp only[zOx];unfold G5;by_cases h0:n>=0
 ·refine zF.ifT (decide_eq_true h0) ?_;by_cases h1:n<l.length;·exact zF.ifT (decide_eq_true h1) (zF.pure (yT h0 h1) (zF.ret.eq (by simp[show 0<=n from h0,h1])))
  ·exact zF.ifF (decide_eq_false h1) (zF.ret.eq (by simp[h1]))
 ·exact zF.ifF (decide_eq_false h0) (zF.ret.eq (by simp[show¬0<=n from h0]))
def aV(t:Tm):Bool:=t.k==0&&t.n==0&&(t.sub.length:Int)==0
theorem zEK(t:Tm):zF (λq=>zRj q t) (aV t):=by refine zF.mk λq=>?_;unfold zRj aV;by_cases h1:t.k=0<;>by_cases h2:t.n=0<;>by_cases h3:t.sub.length=0<;>simp[h1,h2,h3]
def tW(t:Tm)(n:Int):Bool:=qA t 0 n&&(sF t 8 8).isEmpty
theorem zAc(t:Tm)(n:Int)(ho:t.Ok):zF (λq=>zRk q t n) (tW t n):=by
 simp only[zRk];refine(kB t 0 n ho).bind ?_;unfold tW;by_cases h:qA t 0 n=true
 ·refine zF.ifT h ((kA t ho).bind (zF.ret.eq ?_));have hs:zG t=true:=by unfold qA at h;simp at h;exact h.1.1
  unfold mS;rw[if_pos hs,h,Bool.true_and,Bool.eq_iff_iff];simp only[beq_iff_eq,List.isEmpty_iff];constructor
  ·intro h6;have h6':vI (sF t 8 8)=[]:=List.length_eq_zero_iff.1 (by omega);refine List.eq_nil_iff_forall_not_mem.2 λx hx=>?_;rw[<-qX,h6']at hx;cases hx
  ·intro h6;rw[h6];rfl
 ·exact zF.ifF (by simpa using h) (zF.ret.eq (by simp[h]))
def zCl:List Int->Int->Bool|[],_=>true|n::r,m=>n==m&&zCl r (m+1)
theorem zGU(l:List Int)(f:Int)(hf:0<=f/\f<=1048576)(hl:l.length<=1152921504606846976):∀(r:List Int)(v:Nat),l.drop v=r->zF (λq=>cU q l f (v:Int)) (zCl r (f+v))
 |[],v,hd=>by refine zF.succ ?_;simp only[cU];exact zF.ifF (zY hd) zF.ret|n::r,v,hd=>by
  have hlt:=yC hd;refine zF.succ ?_;simp only[cU];refine zF.ifT (zX hd) (zF.pure (zV hd) ?_);rw[yS (x:=f+v) (by omega) (by omega),zCl];by_cases h:n=f+v
  ·refine zF.ifF (by simp[h]) ?_;rw[zU v (by omega)];exact(zGU l f hf hl r (v+1) (zR hd)).eq (by rw[show f+((v+1:Nat):Int)=f+v+1 by omega];simp[h])
  ·exact zF.ifT (by simp[h]) (zF.ret.eq (by simp[h]))
theorem zLN(l:List Int)(f:Int)(hf:0<=f/\f<=1048576)(hl:l.length<=1152921504606846976):zF (λq=>zRi q l f) (zCl l f):=by simp only[zRi];exact(zGU l f hf hl l 0 rfl).eq (by simp)
def zAb(l:List yI)(of kind:Int):List Int->Int->Bool|[],_=>true|n::r,k=>G5 l n kind&&(yA l n).fam==of&&(yA l n).place==k&&zAb l of kind r (k+1)
theorem X4(l:List yI)(of kind:Int)(p:List Int)(hp:p.length<=1152921504606846976):∀(r:List Int)(v:Nat),p.drop v=r->zF (λq=>cV q l of p kind (v:Int)) (zAb l of kind r v)
 |[],v,hd=>by refine zF.succ ?_;simp only[cV];exact zF.ifF (zY hd) zF.ret|n::r,v,hd=>by
  have hlt:=yC hd;refine zF.succ ?_;simp only[cV];refine zF.ifT (zX hd) (zF.pure (zV hd) ((zRg l n kind).bind ?_));rw[zAb];by_cases h:G5 l n kind=true
  ·have hs:=tL h;refine zF.ifT h (zF.pure (yT hs.1 hs.2.1) ?_);by_cases h2:(yA l n).fam=of
   ·refine zF.ifF (by simp[h2]) ?_;by_cases h3:(yA l n).place=v
    ·refine zF.ifF (by simp[h3]) ?_;rw[zU v (by omega)];exact(X4 l of kind p hp r (v+1) (zR hd)).eq (by simp[h,h2,h3])
    ·exact zF.ifT (by simp[h3]) (zF.ret.eq (by simp[h3]))
   ·exact zF.ifT (by simp[h2]) (zF.ret.eq (by simp[h2]))
  ·exact zF.ifF (by simpa using h) (zF.ret.eq (by simp[h]))
theorem zAa(l:List yI)(of kind:Int)(p:List Int)(hp:p.length<=1152921504606846976):zF (λq=>zRh q l of p kind) (zAb l of kind p 0):=by simp only[zRh];exact(X4 l of kind p hp p 0 rfl).eq (by simp)
def zJL(x:yI):Bool:=decide (0<=x.pars)&&decide (0<=x.inds)&&decide (x.pars<=24)&&decide (x.inds<=24-x.pars)&&x.fam==0&&x.place==0&&aV x.body
def zOw(x:yI):Bool:=(uY x.type (x.pars+x.inds)).2.2==0&&(uY x.type (x.pars+x.inds)).2.1.k==2&&(uY x.type (x.pars+x.inds)).2.1.n==x.level
def zGV(l:List yI)(i:Int)(x:yI):Bool:=decide (x.cons.length<=16)&&zCl x.cons (i+1)&&zAb l i 2 x.cons 0
def zYd(l:List yI)(i:Int)(x:yI):Bool:=x.inds==0&&decide (x.cons.length=1)&&zCl x.fields (i+2)&&zAb l i 4 x.fields 0&&(xG (yA l (i+1)).type).2.2==0&&((xG (yA l (i+1)).type).1.length:Int)==x.pars+x.fields.length
def mY(l:List yI)(i:Int):Bool:=zJL (yA l i)&&zOw (yA l i)&&zGV l i (yA l i)&&(decide ((yA l i).fields.length=0)||zYd l i (yA l i))
theorem zOv(l:List yI)(i:Int)(h0:0<=i)(h1:i<l.length)(hl:l.length<=65535)(he:∀e∈l,jM e):zF (λq=>zUU q l i) (mY l i):=by
 simp only[zUU];refine zF.pure (yT h0 h1) ?_;have hx:=he _ (nS h0 h1);have hfl:(yA l i).fields.length<=1152921504606846976:=hx.2.2.2;unfold mY;by_cases hA:zJL (yA l i)=true
 ·have hA':=hA;unfold zJL at hA';simp only[Bool.and_eq_true,decide_eq_true_eq,beq_iff_eq]at hA';obtain⟨⟨⟨⟨⟨⟨a1,a2⟩,a3⟩,a4⟩,a5⟩,a6⟩,a7⟩:=hA';refine zF.ifF (decide_eq_false (by omega)) (zF.ifF (decide_eq_false (by omega)) (zF.ifF (decide_eq_false (by omega)) (zF.ifF (decide_eq_false (by rw[yS (by omega) (by omega)];omega)) (zF.ifF (by simp[a5]) (zF.ifF (by simp[a6]) (((zEK _).eq a7).bind (zF.ifT rfl ?_)))))));rw[yS (by omega) (by omega)];refine(K3 (yA l i).type _ hx.1).bind ?_;rw[hA];by_cases b1:(uY (yA l i).type ((yA l i).pars+(yA l i).inds)).2.2=0
  ·refine zF.ifF (by simp[b1]) ?_;by_cases b2:(uY (yA l i).type ((yA l i).pars+(yA l i).inds)).2.1.k=2
   ·refine zF.ifF (by simp[b2]) ?_;by_cases b3:(uY (yA l i).type ((yA l i).pars+(yA l i).inds)).2.1.n=(yA l i).level
    ·refine zF.ifF (by simp[b3]) ?_;have hB:zOw (yA l i)=true:=by unfold zOw;simp[b1,b2,b3]
     rw[hB];by_cases c1:(yA l i).cons.length<=16
     ·refine zF.ifF (decide_eq_false (by omega)) ?_;rw[yS (x:=i+1) (by omega) (by omega)];refine(zLN (yA l i).cons (i+1) (by omega) (by omega)).bind ?_;by_cases c2:zCl (yA l i).cons (i+1)=true
      ·refine zF.ifT c2 ((zAa l i 2 (yA l i).cons (by omega)).bind ?_);by_cases c3:zAb l i 2 (yA l i).cons 0=true
       ·refine zF.ifT c3 ?_;have hC:zGV l i (yA l i)=true:=by unfold zGV;simp[c1,c2,c3]
        rw[hC];by_cases d0:(yA l i).fields.length=0;·exact zF.ifT (by simp[d0]) (zF.ret.eq (by simp[d0]))
        ·refine zF.ifF (by have h:((yA l i).fields.length:Int)≠0:=(by omega);simpa using h) ?_;rw[show decide ((yA l i).fields.length=0)=false by simp[d0]];simp only[Bool.true_and,Bool.false_or];unfold zYd;by_cases d1:(yA l i).inds=0
         ·refine zF.ifF (by simp[d1]) ?_;by_cases d2:(yA l i).cons.length=1
          ·refine zF.ifF (by simp[d2]) ?_;rw[yS (x:=i+2) (by omega) (by omega)];refine(zLN (yA l i).fields (i+2) (by omega) hx.2.2.2).bind ?_;by_cases d3:zCl (yA l i).fields (i+2)=true
           ·refine zF.ifT d3 ((zAa l i 4 (yA l i).fields hx.2.2.2).bind ?_);by_cases d4:zAb l i 4 (yA l i).fields 0=true
            ·have hi:i+1<l.length:=by
              obtain⟨y,hy⟩:∃y,(yA l i).cons=[y]:=by rcases hc:(yA l i).cons with _|⟨y,_|⟨z,r⟩⟩<;>rw[hc]at d2<;>simp at d2;exact⟨y,rfl⟩
              rw[hy]at c2 c3;rw[zCl]at c2;rw[zAb]at c3;simp only[Bool.and_eq_true,beq_iff_eq]at c2 c3;have:=tL c3.1.1.1;omega
             refine zF.ifT d4 (zF.pure (yT (by omega) hi) ((K4 _ (he _ (nS (by omega) hi)).1).bind ?_));by_cases d5:(xG (yA l (i+1)).type).2.2=0
             ·refine zF.ifT (by simp[d5]) (zF.ret.eq ?_);rw[yS (x:=(yA l i).pars+((yA l i).fields.length:Int)) (by omega) (by omega)];simp[d1,d2,d3,d4,d5]
             ·exact zF.ifF (by simp[d5]) (zF.ret.eq (by simp[d5]))
            ·exact zF.ifF (by simpa using d4) (zF.ret.eq (by simp[d4]))
           ·exact zF.ifF (by simpa using d3) (zF.ret.eq (by simp[d3]))
          ·exact zF.ifT (by simp<;>omega) (zF.ret.eq (by simp[d2]))
         ·exact zF.ifT (by simp[d1]) (zF.ret.eq (by simp[d1]))
       ·refine zF.ifF (by simpa using c3) (zF.ret.eq ?_);unfold zGV;simp[c3]
      ·refine zF.ifF (by simpa using c2) (zF.ret.eq ?_);unfold zGV;simp[c2]
     ·refine zF.ifT (decide_eq_true (by omega)) (zF.ret.eq ?_);unfold zGV;simp[c1]
    ·refine zF.ifT (by simp[b3]) (zF.ret.eq ?_);unfold zOw;simp[b3]
   ·refine zF.ifT (by simp[b2]) (zF.ret.eq ?_);unfold zOw;simp[b2]
  ·refine zF.ifT (by simp[b1]) (zF.ret.eq ?_);unfold zOw;simp[b1]
 ·rw[show zJL (yA l i)=false by simpa using hA];unfold zJL at hA;simp only[Bool.and_eq_true,decide_eq_true_eq,beq_iff_eq]at hA;by_cases a1:(yA l i).pars<0;·exact zF.ifT (decide_eq_true a1) zF.ret
  refine zF.ifF (decide_eq_false a1) ?_;by_cases a2:(yA l i).inds<0;·exact zF.ifT (decide_eq_true a2) zF.ret
  refine zF.ifF (decide_eq_false a2) ?_;by_cases a3:(yA l i).pars>24;·exact zF.ifT (decide_eq_true a3) zF.ret
  refine zF.ifF (decide_eq_false a3) ?_;rw[yS (x:=24-(yA l i).pars) (by omega) (by omega)];by_cases a4:(yA l i).inds>24-(yA l i).pars;·exact zF.ifT (decide_eq_true a4) zF.ret
  refine zF.ifF (decide_eq_false a4) ?_;by_cases a5:(yA l i).fam=0
  ·refine zF.ifF (by simp[a5]) ?_;by_cases a6:(yA l i).place=0
   ·refine zF.ifF (by simp[a6]) ((zEK _).bind ?_);by_cases a7:aV (yA l i).body=true;·exact absurd ⟨⟨⟨⟨⟨⟨by omega,by omega⟩,by omega⟩,by omega⟩,a5⟩,a6⟩,a7⟩ hA
    ·exact zF.ifF (by simpa using a7) zF.ret
   ·exact zF.ifT (by simp[a6]) zF.ret
  ·exact zF.ifT (by simp[a5]) zF.ret
def zRf(c:Nat)(b:xH)(a:Int):Option (Bool):=zS b a>>=λx1=>zOx c b x1.fam 1>>=λr3=>if r3 then if decide (x1.fam>=a)then some false else zS b x1.fam>>=λx7=>if x1.pars !=x7.pars then some false else zRj c x1.body>>=λr10=>if r10 then if x1.inds !=0 then some false else if x1.level !=0 then some false else if decide ((xC ((x1.cons.length:Int)+(x1.fields.length:Int)))>0)then some false else if x1.kind==4 then if decide (x1.place>=0)then if decide (x1.place<(x7.fields.length:Int))then zS x7.fields x1.place>>=λx19=>some (x19==a)else some false else some false else if decide (x1.place>=0)then if decide (x1.place<(x7.cons.length:Int))then zS x7.cons x1.place>>=λx23=>some (x23==a)else some false else some false else some false else some false
theorem yBS{c b a}:Cz (zRf c b a) 163 [] [zN xA b .no,ai a] (λr=>ab r) (λ_=>[]) 0:=fw func163<|rA 0 (wM (o:=.no)) λ_=>rK 3 [] zYe (λ_=>rB 2 (fE 0)<|rH λ_ h8=>rS (oA 2 (wM (o:=.no) h8))<|rB 1 (fE 0)<|rK 1 [] yBP (λ_=>rB 2 (fE 0)<|rB 1 (fE 0)<|rB 5 (fE 0)<|rS (oA 1 (wM (o:=.no) h8))<|rB 2 (rS (oA 1 (wM (o:=.no) h8))<|rB 2 (rB 2 (rA 1 (oV (o:=.no)) λ_=>fE 2)<|fE 0)<|fE 0)<|rB 1 (rB 2 (rA 1 (oV (o:=.no)) λ_=>fE 2)<|fE 0)<|fE 0) λ_=>fE 1) λ_=>fE 1
def zUV(b:Nat)(a:xH)(c:Int):Option (Bool):=zS a c>>=λx1=>zJJ b x1.type>>=λr3=>zRf b a c>>=λr5=>if r5 then if r3.2.2==0 then if decide ((r3.1.length:Int)>=x1.pars)then zS a x1.fam>>=λx10=>zNU b r3.2.1 x1.fam x1.pars x10.inds (r3.1.length:Int)>>=λr12=>some r12 else some false else some false else some false
theorem yEs{b a c}:Cz (zUV b a c) 116 [] [zN xA a .no,ai c] (λr=>ab r) (λ_=>[]) 0:=fw func116<|rH λ_ h2=>rS (oA 0 (wM (o:=.no) h2))<|rC 1 [] zUE λ_=>rK 4 [] yBS (λ_=>rB 0 (rS (oA 1 (wM (o:=.no) h2))<|rB 1 (rS (oA 1 (wM (o:=.no) h2))<|rS (oA 1 (wM (o:=.no) h2))<|rS (oA 1 (wM (o:=.no) h2))<|rA 1 (wM (o:=.no)) λ_=>rC 2 [] zYg λ_=>fE 0)<|fE 0)<|fE 0) λ_=>fE 0
def zUW(a:Nat)(b:xH)(c:Int):Option (Bool):=zRf a b c>>=λr1=>if r1 then zS b c>>=λx4=>zCm a x4.type (xC (x4.pars+1))>>=λr6=>if r6.2.2==0 then zS r6.1 x4.pars>>=λx9=>zNU a x9 x4.fam x4.pars 0 x4.pars>>=λr11=>some r11 else some false else some false
theorem yEr{a b c}:Cz (zUW a b c) 117 [] [zN xA b .no,ai c] (λr=>ab r) (λ_=>[]) 0:=fw func117<|rK 0 [] yBS (λ_=>rH λ_ h5=>rS (oA 1 (wM (o:=.no) h5))<|rS (oA 1 (wM (o:=.no) h5))<|rC 2 [] zRt λ_=>rB 4 (rS (oA 0 (wM (o:=.no) h5))<|rA 1 (xP (o:=.no)) λ_=>rS (oA 1 (wM (o:=.no) h5))<|rS (oA 1 (wM (o:=.no) h5))<|rS (oA 1 (wM (o:=.no) h5))<|rC 1 [] zYg λ_=>fE 0)<|fE 0) λ_=>fE 1
def zUX(c:Nat)(b:xH)(a:Int):Option (Bool):=zS b a>>=λx1=>zRk c x1.body a>>=λr3=>if r3 then if x1.fam==0 then if x1.place==0 then if x1.pars==0 then if x1.inds==0 then if x1.level==0 then some ((xC ((x1.cons.length:Int)+(x1.fields.length:Int)))==0)else some false else some false else some false else some false else some false else some false
theorem yEq{c b a}:Cz (zUX c b a) 118 [] [zN xA b .no,ai a] (λr=>ab r) (λ_=>[]) 0:=fw func118<|rA 0 (wM (o:=.no)) λ_=>rK 3 [] yBO (λ_=>rB 1 (rB 1 (rB 1 (rB 1 (rB 1 (fE 6)<|fE 0)<|fE 0)<|fE 0)<|fE 0)<|fE 0) λ_=>fE 0
end Go.Proofs.YtohkcbcddindpaaGreat
