/- Texts: AbMs AbRow AbRow2 AbMpI AbO AbAps AbZ AbSlow AbOnce AbTyS AbStS AbF25 AbF24va19514 AbF304 AbF197 AbF198 AbF119 AbF199 AbF120 AbF73 AbF74 AbF42 AbF43v0 AbF43v1 AbF43vr0 AbF43vr1 AbF43 AbF21 AbF82 AbF83 AbF335 AbF435 AbF436 AbF333 AbF224 AbF225 AbF227 AbF226 AbF133 AbF191 AbF112 AbF189 AbF279 AbF181 AbF134 AbF228 AbF229 AbF337 AbF230 AbF97 AbF135 AbF231 AbF232 AbF219 AbF233 AbF136 AbF84 AbF48 AbF338 AbF234 AbF339 AbF340 AbF341 AbF235 AbF334 AbF345 AbF437 AbF344va14730 AbF347 AbF236 AbF139 AbF85 AbF86 AbF500 AbF416 AbF417 AbF306 AbF201 AbF238 AbF142 AbF237 AbF308 AbF420 AbF501 AbF202_307_309_419 AbF122 AbF140 AbF148 AbF146 AbF239 AbF149 AbF143va35698 AbF144 AbF143va51468 AbF87 AbF49 AbF58va12063 AbF37 AbF81va35861 AbF47 AbF150va41311 AbF241va12789 AbF205 AbF125 -/
import Derived.ChangeAlike
import Derived.Defers
import Derived.Laws.LoneSync
import Derived.Laws.Pointers
import Derived.RegionCalls
import Derived.RegionTactic
import Derived.Tactics
import Derived.Tactics2
import Derived.Test.YtcpbenbhnbjcoaaGreatAbB2
set_option linter.unusedVariables false
set_option linter.unusedSimpArgs false
set_option linter.unusedSectionVars false
namespace Go.Ab
open Go Go.RowKit
structure Sub (G G':Gh) (p:Nat->Prop):Prop where
 F:G'.F=G.F
 ρ:∀i b,p i->G.ρ i=some b->G'.ρ i=some b
 τ:∀k q,G.τ k=some q->G'.τ k=some q
 L:∀b o,G.L b o->G'.L b o
mutual
theorem V.less{G G':Gh}{w:World}{p:Nat->Prop}(h:Sub G G' p):∀(a:AV) (u:Value),a.fine p->V G w a u->V G' w a u
 | .val v,u,_,hv=>by simpa only[V]using hv
 | .agg cs,u,hi,hv=>by
  simp only[V,AV.fine]at hi hv ⊢
  obtain⟨vs,rfl,hl⟩:=hv
  exact⟨vs,rfl,VL.less h cs vs hi hl⟩
 | .tup cs,u,hi,hv=>by
  simp only[V,AV.fine]at hi hv ⊢
  obtain⟨vs,rfl,hl⟩:=hv
  exact⟨vs,rfl,VL.less h cs vs hi hl⟩
 | .sl es n o,u,hi,hv=>by
  simp only[V,AV.fine]at hi hv ⊢
  obtain⟨cap,hc,hh⟩:=hv
  refine⟨cap,hc,?_⟩
  rcases hh with⟨rfl,h2,h3,h4,h5⟩|⟨b,off,hu,hcells,ho⟩
  ·exact .inl ⟨rfl,h2,h3,h4,h5.mono h.τ⟩
  ·exact .inr ⟨b,off,hu,VC.data h.L es b off hi hcells,ho.mono h.F h.τ⟩
 | .ip es,u,hi,hv=>by
  simp only[V,AV.fine]at hi hv ⊢
  obtain⟨b,off,hu,hcells⟩:=hv
  exact⟨b,off,hu,VC.data h.L es b off hi hcells⟩
 | .mp i off,u,hi,hv=>by
  simp only[V,AV.fine]at hi hv ⊢
  obtain⟨b,hb,hu⟩:=hv
  exact⟨b,h.ρ _ _ hi hb,hu⟩
 | .ms i off n c sz,u,hi,hv=>by
  simp only[V,AV.fine]at hi hv ⊢
  obtain⟨b,cap,hb,hu⟩:=hv
  exact⟨b,cap,h.ρ _ _ hi hb,hu⟩
 | .obj i,u,hi,hv=>by
  simp only[V,AV.fine]at hi hv ⊢
  obtain⟨b,hb,hu⟩:=hv
  exact⟨b,h.ρ _ _ hi hb,hu⟩
 | .clo g fs cs,u,hi,hv=>by
  simp only[V,AV.fine]at hi hv ⊢
  obtain⟨l,r',hu,h1,h2⟩:=hv
  exact⟨l,r',hu,VL.less h fs l hi.1 h1,VL.less h cs r' hi.2 h2⟩
theorem VL.less{G G':Gh}{w:World}{p:Nat->Prop}(h:Sub G G' p):∀(as0:List AV) (us:List Value),AV.fineL p as0->VL G w as0 us->VL G' w as0 us
 | [],[],_,_=>by simp only[VL]
 |a::as0,u::us,hi,hv=>by
  simp only[VL,AV.fineL]at hi hv ⊢
  exact⟨V.less h a u hi.1 hv.1,VL.less h as0 us hi.2 hv.2⟩
 | [],_::_,_,hv=>by simp only[VL]at hv
 |_::_,[],_,hv=>by simp only[VL]at hv
end
mutual
def AV.fz(m:Nat)(cs:List AV):AV->AV
 | .val v=>.val v
 | .agg l=>.agg (AV.fzL m cs l)
 | .tup l=>.tup (AV.fzL m cs l)
 | .sl es n o=>.sl es n o
 | .ip es=>.ip es
 | .mp i off=>.mp i off
 | .ms i off n c sz=>bif Nat.beq i m then .sl (cs.drop off) n .no else .ms i off n c sz
 | .obj i=>.obj i
 | .clo g a b=>.clo g a b
def AV.fzL(m:Nat)(cs:List AV):List AV->List AV
 | []=>[]
 |a::l=>AV.fz m cs a::AV.fzL m cs l
end
mutual
def AV.fzOk(m:Nat):AV->Prop
 | .val _=>True
 | .agg l=>AV.fzOkL m l
 | .tup l=>AV.fzOkL m l
 | .sl es _ _=>AV.DataL es
 | .ip es=>AV.DataL es
 | .mp i _=>i<m
 | .ms i off _ _ _=>(i=m∧off=0)∨i<m
 | .obj i=>i<m
 | .clo _ a b=>AV.fineL (fun i=>i<m) a∧AV.fineL (fun i=>i<m) b
def AV.fzOkL(m:Nat):List AV->Prop
 | []=>True
 |a::l=>AV.fzOk m a∧AV.fzOkL m l
end
theorem DataL_drop:∀(l:List AV) (n:Nat),AV.DataL l->AV.DataL (l.drop n)
 |l,0,h=>by simpa using h
 | [],_+1,_=>trivial
 |_::l,n+1,h=>by simpa using DataL_drop l n h.2
mutual
theorem AV.fz_fine{m:Nat}{cs:List AV}(hc:AV.DataL cs):∀a:AV,a.fzOk m->(a.fz m cs).fine (fun i=>i<m)
 | .val _,_=>trivial
 | .agg l,h=>AV.fzL_fine hc l h
 | .tup l,h=>AV.fzL_fine hc l h
 | .sl _ _ _,h=>h
 | .ip _,h=>h
 | .mp _ _,h=>h
 | .ms i off n c sz,h=>by
  simp only[AV.fz]
  cases hb:Nat.beq i m with
  |true=>exact DataL_drop _ _ hc
  |false=>
   rcases h with⟨rfl,_⟩|h
   ·simp at hb
   ·exact h
 | .obj _,h=>h
 | .clo _ _ _,h=>h
theorem AV.fzL_fine{m:Nat}{cs:List AV}(hc:AV.DataL cs):∀l:List AV,AV.fzOkL m l->AV.fineL (fun i=>i<m) (AV.fzL m cs l)
 | [],_=>trivial
 |a::l,h=>⟨AV.fz_fine hc a h.1,AV.fzL_fine hc l h.2⟩
end
mutual
theorem V.fz{G G':Gh}{w:World}{m b:Nat}{cs:List AV}(h:Sub G G' (fun i=>i<m))(hm:G.ρ m=some b)(hc:VC G' w cs b 0):∀(a:AV) (u:Value),a.fzOk m->V G w a u->V G' w (a.fz m cs) u
 | .val v,u,_,hv=>by simpa only[AV.fz,V]using hv
 | .agg l,u,hi,hv=>by
  simp only[V,AV.fzOk,AV.fz]at hi hv ⊢
  obtain⟨vs,rfl,hl⟩:=hv
  exact⟨vs,rfl,VL.fz h hm hc l vs hi hl⟩
 | .tup l,u,hi,hv=>by
  simp only[V,AV.fzOk,AV.fz]at hi hv ⊢
  obtain⟨vs,rfl,hl⟩:=hv
  exact⟨vs,rfl,VL.fz h hm hc l vs hi hl⟩
 | .sl es n o,u,hi,hv=>V.less h (.sl es n o) u hi hv
 | .ip es,u,hi,hv=>V.less h (.ip es) u hi hv
 | .mp i off,u,hi,hv=>V.less h (.mp i off) u hi hv
 | .ms i off n c sz,u,hi,hv=>by
  simp only[AV.fz]
  cases hb:Nat.beq i m with
  |false=>
   rcases hi with⟨rfl,_⟩|hi
   ·simp at hb
   ·exact V.less h (.ms i off n c sz) u hi hv
  |true=>
   have:=Nat.eq_of_beq_eq_true hb
   subst this
   simp only[V,cond_true]at hv ⊢
   obtain⟨b',cap,hb',hn,o,rfl,hro⟩:=hv
   rw[hm]at hb';cases hb'
   rcases hi with⟨_,e0⟩|hi
   ·subst e0
    rcases hro with⟨eo,_⟩|⟨_,h0⟩
    ·subst eo
     exact⟨cap,Nat.le_trans hn.1 hn.2,.inr ⟨b,_,rfl,by simpa using hc,trivial⟩⟩
    ·exact absurd h0 (Nat.lt_irrefl _)
   ·exact absurd hi (Nat.lt_irrefl _)
 | .obj i,u,hi,hv=>V.less h (.obj i) u hi hv
 | .clo g a b,u,hi,hv=>V.less h (.clo g a b) u hi hv
theorem VL.fz{G G':Gh}{w:World}{m b:Nat}{cs:List AV}(h:Sub G G' (fun i=>i<m))(hm:G.ρ m=some b)(hc:VC G' w cs b 0):∀(as0:List AV) (us:List Value),AV.fzOkL m as0->VL G w as0 us->VL G' w (AV.fzL m cs as0) us
 | [],[],_,_=>by simp only[AV.fzL,VL]
 |a::as0,u::us,hi,hv=>by
  simp only[VL,AV.fzOkL,AV.fzL]at hi hv ⊢
  exact⟨V.fz h hm hc a u hi.1 hv.1,VL.fz h hm hc as0 us hi.2 hv.2⟩
 | [],_::_,_,hv=>by simp only[VL]at hv
 |_::_,[],_,hv=>by simp only[VL]at hv
end
def cutH(m:Nat):List (Nat×Blk)->List (Nat×Blk)
 | []=>[]
 |p::l=>bif Nat.blt p.1 m then p::cutH m l else cutH m l
theorem look_cutH{m:Nat}:∀(l:List (Nat×Blk)) (i:Nat),look (cutH m l) i=if i<m then look l i else none
 | [],i=>by simp[cutH,look]
 |p::l,i=>by
  simp only[cutH]
  cases hb:Nat.blt p.1 m with
  |true=>
   have hb':p.1<m:=Nat.le_of_ble_eq_true hb
   simp only[cond_true,look,look_cutH l i]
   cases he:Nat.beq i p.1 with
   |true=>have:=Nat.eq_of_beq_eq_true he;simp only[cond_true];rw[if_pos (by omega)]
   |false=>simp only[cond_false]
  |false=>
   have hb':¬p.1<m:=by intro h;rw[Nat.blt,Nat.ble_eq_true_of_le h]at hb;cases hb
   simp only[cond_false,look,look_cutH l i]
   cases he:Nat.beq i p.1 with
   |true=>have:=Nat.eq_of_beq_eq_true he;rw[if_neg (by omega),if_neg (by omega)]
   |false=>simp only[cond_false]
def Blk.alive:Blk->Bool
 | .dead=>false
 |_=>true
theorem CTri.freeze{P:Program}{f:FuncId}{H0 H1:List Blk}{args cs:List AV}{res:AV}{nst:Nat}(h:CTri P f H0 args res (H1++[.row cs]) nst)(hle:H0.length≤H1.length)(hH1:∀X∈H1,X.fine (fun i=>i<H1.length))(hcs:AV.DataL cs)(hr:res.fzOk H1.length)(hnd:H1.all Blk.alive=true) :
  CTri P f H0 args (res.fz H1.length cs) H1 nst:=by
 intro G0 W cargs hB hR hv
 refine(h G0 W cargs hB hR hv).mono ?_
 rintro e W' ⟨u,G',s',rfl,hE,hR',hu,hb,ho⟩
 have hm:look s'.H H1.length=some (.row cs):=hb H1.length _ (by simp)
 obtain⟨b,hρ,hF,vs,T,hh,us,rest,hus,hvl⟩:=hR'.look (i:=H1.length) (X:=.row cs) (by rw[over_H];exact hm)
 have hlen:=VL.length _ _ hvl
 let G'':Gh:={ G' with ρ:=fun i=>if i<H1.length then G'.ρ i else none,L:=fun c o=>G'.L c o∨(c=b∧o<cs.length) }
 have hS:Sub G' G'' (fun i=>i<H1.length):=⟨rfl,fun i b hi e=>by show (if i<H1.length then G'.ρ i else none)=_;rw[if_pos hi];exact e,fun _ _ e=>e,fun _ _ e=>.inl e⟩
 have hcell:∀i (hi:i<us.length),W'.cell? ⟨b,0+i,none⟩=some us[i]:=by
  intro i hi
  have:vs[i]? = some us[i]:=by
   have h1:vs.toList[i]? = some us[i]:=by rw[hus,List.getElem?_append_left hi,List.getElem?_eq_getElem hi]
   simpa using h1
  rw[Nat.zero_add]
  simp[World.cell?,hh,this]
 have hC:VC G'' W' cs b 0:=VC.of_cells cs us b 0 (VL.data hS.L cs us hcs hvl) (fun i hi=>.inr ⟨rfl,by omega⟩) hcell
 have hσ:∀i,(over (Emp 0) { s' with H:=cutH H1.length s'.H }).H i=if i<H1.length then look s'.H i else none:=fun i=>by rw[over_H];exact look_cutH _ _
 have hσ':∀i,(over (Emp 0) s').H i=look s'.H i:=fun i=>over_H _ _
 refine⟨u,G'',{ s' with H:=cutH H1.length s'.H },rfl,⟨fun i c hc=>?_,hE.τ,fun c o e=>.inl (hE.L c o e),hE.cell,hE.w0,hE.F,fun c o e=>?_,hE.room⟩,⟨fun i=>?_,⟨H1.length,fun i hi=>?_⟩,fun i j c hi hj=>?_,fun i c X hi hX=>?_,fun c o hL=>?_,hR'.τns,fun k hk=>?_,hR'.ownd,hR'.below,hR'.base⟩,V.fz hS hρ hC _ _ hr hu,fun i X hX=>?_,ho⟩
 ·have hi:i<H0.length:=Nat.lt_of_not_le fun hge=>by rw[hB.ρ i hge]at hc;cases hc
  show (if i<H1.length then G'.ρ i else none)=_
  rw[if_pos (by omega)];exact hE.ρ i c hc
 ·rcases e with e|⟨rfl,_⟩
  ·exact hE.newL c o e
  ·exact .inr (by rw[←hE.F];exact hF)
 ·rw[hσ]
  show (if i<H1.length then G'.ρ i else none)=none↔_
  split
  ·rw[hR'.dom i,hσ']
  ·simp
 ·rw[hσ,if_neg (by omega)]
 ·have hi':(if i<H1.length then G'.ρ i else none)=some c:=hi
  have hj':(if j<H1.length then G'.ρ j else none)=some c:=hj
  split at hi'
  ·split at hj'
   ·rename_i h1 h2
    rw[hσ,hσ,if_pos h1,if_pos h2,←hσ',←hσ']
    exact hR'.inj i j c hi' hj'
   ·cases hj'
  ·cases hi'
 ·have hi':(if i<H1.length then G'.ρ i else none)=some c:=hi
  split at hi'
  ·rename_i hlt
   rw[hσ,if_pos hlt]at hX
   obtain⟨q1,q2⟩:=hR'.blk i c X hi' (by rw[hσ'];exact hX)
   refine⟨q1,?_⟩
   have hget:(H1++[.row cs])[i]? = some H1[i]:=by rw[List.getElem?_append_left hlt,List.getElem?_eq_getElem hlt]
   have:=hb i _ hget
   rw[this]at hX;cases hX
   have hf:=hH1 _ (List.getElem_mem hlt)
   cases hY:H1[i]with
   |cells ds=>
    rw[hY]at q2 hf
    obtain⟨vs',T',q3,q4⟩:=q2
    exact⟨vs',T',q3,q4.imp fun us=>VL.less hS _ us hf⟩
   |obj o=>rw[hY]at q2;exact q2
   |row ds=>
    rw[hY]at q2 hf
    obtain⟨vs',T',q3,q4⟩:=q2
    exact⟨vs',T',q3,q4.imp fun us=>VL.data hS.L _ us hf⟩
   |dead=>rw[hY]at q2;exact q2
  ·cases hi'
 ·rcases hL with hL|⟨rfl,hlt⟩
  ·obtain⟨q1,q2⟩:=hR'.live c o hL
   refine⟨q1,fun i hi=>?_⟩
   have hi':(if i<H1.length then G'.ρ i else none)=some c:=hi
   split at hi'
   ·exact q2 i hi'
   ·cases hi'
  ·refine⟨⟨us[o]'(by omega),?_⟩,fun i hi=>?_⟩
   ·have:=hcell o (by omega)
    rwa[Nat.zero_add]at this
   ·have hi':(if i<H1.length then G'.ρ i else none)=some c:=hi
    split at hi'
    ·rename_i hlt'
     have hi2:look s'.H i=some H1[i]:=hb i _ (by rw[List.getElem?_append_left hlt',List.getElem?_eq_getElem hlt'])
     rcases hR'.inj i H1.length c hi' hρ with this|this|this
     ·omega
     ·rw[hσ',hi2]at this
      have h3:=List.all_eq_true.1 hnd _ (List.getElem_mem hlt')
      rw[Option.some.inj this]at h3
      cases h3
     ·rw[hσ',hm]at this;cases this
    ·cases hi'
 ·obtain⟨c,f1,t,q1,q2|⟨q2,q3,q4,q5⟩⟩:=hR'.own k hk
  ·exact⟨c,f1,t,q1,.inl q2⟩
  ·refine⟨c,f1,t,q1,.inr ⟨q2,fun i hi=>?_,fun o h1 h2 hL=>?_,q5⟩⟩
   ·have hi':(if i<H1.length then G'.ρ i else none)=some c:=hi
    split at hi'
    ·exact q3 i hi'
    ·cases hi'
   ·rcases hL with hL|⟨rfl,_⟩
    ·exact q4 o h1 h2 hL
    ·exact q3 _ hρ
 ·have hlt:=(List.getElem?_eq_some_iff.1 hX).1
  show look (cutH H1.length s'.H) i=some X
  rw[look_cutH,if_pos hlt]
  exact hb i X (by rw[List.getElem?_append_left hlt];exact hX)
theorem CT.freeze{P:Program}{f:FuncId}{H0 H1:List Blk}{args cs:List AV}{res res':AV}{nst:Nat}(h:CT P f H0 args res (H1++[.row cs]) nst)(hle:H0.length≤H1.length)(hH1:∀X∈H1,X.fine (fun i=>i<H1.length))(hcs:AV.DataL cs)(hr:res.fzOk H1.length)(hnd:H1.all Blk.alive=true)(e:res.fz H1.length cs=res') :
  CT P f H0 args res' H1 nst:=by
 subst e
 exact⟨h.tri.freeze hle hH1 hcs hr hnd,h.args,h.H0,AV.fz_fine hcs _ hr,hH1⟩
theorem CTri.freezeS{P:Program}{f:FuncId}{args cs:List AV}{n c sz:Nat}(h:CTri P f [] args (.ms 0 0 n c sz) [.row cs] 0)(hcs:AV.DataL cs)(hl:cs.length=n*sz) :
  CTri P f [] args (.sl cs n (.st 0 sz)) [] 1:=by
 intro G0 W cargs hB hR hv
 refine(h G0 W cargs hB hR hv).mono ?_
 rintro e W' ⟨u,G',s',rfl,hE,hR',hu,hb,-⟩
 have hm:look s'.H 0=some (.row cs):=hb 0 _ (by simp)
 obtain⟨b,hρ,hF,vs,T,hh,us,rest,hus,hvl⟩:=hR'.look (i:=0) (X:=.row cs) (by rw[over_H];exact hm)
 have hlen:=VL.length _ _ hvl
 simp only[V]at hu
 obtain⟨b',cap,hb',hn,o,rfl,hro⟩:=hu
 rw[hρ]at hb';cases hb'
 rcases hro with⟨rfl,vs2,T2,hh2,hroom⟩|⟨_,h0⟩
 rotate_left
 ·exact absurd h0 (Nat.lt_irrefl _)
 rw[hh]at hh2;cases hh2
 let G'':Gh:={ G' with ρ:=fun _=>none,τ:=fun k=>if k=0 then some (b,0+cs.length,0+cap*sz)else none,L:=fun c o=>G'.L c o∨(c=b∧o<cs.length) }
 have hcell:∀i (hi:i<us.length),W'.cell? ⟨b,0+i,none⟩=some us[i]:=by
  intro i hi
  have:vs[i]? = some us[i]:=by
   have h1:vs.toList[i]? = some us[i]:=by rw[hus,List.getElem?_append_left hi,List.getElem?_eq_getElem hi]
   simpa using h1
  rw[Nat.zero_add]
  simp[World.cell?,hh,this]
 have hC:VC G'' W' cs b 0:=VC.of_cells cs us b 0 (VL.data (G':=G'') (fun c o e=>Or.inl e) cs us hcs hvl) (fun i hi=>.inr ⟨rfl,by omega⟩) hcell
 refine⟨_,G'',{ s' with H:=[],own:=[0],ns:=1 },rfl,⟨fun i c hc=>?_,fun k r hk=>?_,fun c o e=>.inl (hE.L c o e),hE.cell,hE.w0,hE.F,fun c o e=>?_,fun i c m hc=>?_⟩,⟨fun i=>?_,⟨0,fun i _=>?_⟩,fun i j c hi=>?_,fun i c X hi=>?_,fun c o hL=>?_,fun k hk=>?_,fun k hk=>?_,fun k k' _ _ _ _ _ hk hk'=>?_,hR'.below,hR'.base⟩,?_,fun i X hX=>?_,fun k hk=>?_⟩
 ·rw[hB.ρ i (Nat.zero_le _)]at hc;cases hc
 ·rw[hB.τ k]at hk;cases hk
 ·rcases e with e|⟨rfl,_⟩
  ·exact hE.newL c o e
  ·exact .inr (by rw[←hE.F];exact hF)
 ·rw[hB.ρ i (Nat.zero_le _)]at hc;cases hc
 ·rw[over_H];simp[look,G'']
 ·rw[over_H];rfl
 ·cases hi
 ·cases hi
 ·rcases hL with hL|⟨rfl,hlt⟩
  ·exact⟨(hR'.live c o hL).1,fun i hi=>by cases hi⟩
  ·refine⟨⟨us[o]'(by omega),?_⟩,fun i hi=>by cases hi⟩
   have:=hcell o (by omega)
   rwa[Nat.zero_add]at this
 ·have hk1:1≤k:=hk
  show (if k=0 then some (b,0+cs.length,0+cap*sz)else none)=none
  rw[if_neg (by omega)]
 ·rw[over_own]at hk
  have e:k=0:=by simpa using hk
  subst e
  refine⟨b,0+cs.length,0+cap*sz,rfl,.inr ⟨hF,fun i hi=>(by cases hi),fun o h1 h2 hL=>?_,vs,T,hh,hroom⟩⟩
  rcases hL with hL|⟨_,h3⟩
  ·exact(hR'.live b o hL).2 0 hρ
  ·omega
 ·rw[over_own]at hk hk'
  have e:k=0:=by simpa using hk
  have e':k'=0:=by simpa using hk'
  intros;omega
 ·simp only[V]
  exact⟨cap,Nat.le_trans hn.1 hn.2,.inr ⟨b,0,rfl,hC,⟨_,rfl⟩,.inr ⟨hl,hF,rfl⟩⟩⟩
 ·cases hX
 ·have:k=0:=by omega
  subst this;rfl
theorem CTri.freezeZ{P:Program}{f:FuncId}{args cs:List AV}{n c sz:Nat}(h:CTri P f [] args (.ms 0 0 n c sz) [.row cs] 0)(hn0:n=0) :
  CTri P f [] args (.sl [] 0 (.st 0 sz)) [] 1:=by
 intro G0 W cargs hB hR hv
 refine(h G0 W cargs hB hR hv).mono ?_
 rintro e W' ⟨u,G',s',rfl,hE,hR',hu,hb,-⟩
 have hm:look s'.H 0=some (.row cs):=hb 0 _ (by simp)
 obtain⟨b,hρ,hF,vs,T,hh,us,rest,hus,hvl⟩:=hR'.look (i:=0) (X:=.row cs) (by rw[over_H];exact hm)
 have hlen:=VL.length _ _ hvl
 simp only[V]at hu
 obtain⟨b',cap,hb',hn,o,rfl,hro⟩:=hu
 rw[hρ]at hb';cases hb'
 rcases hro with⟨rfl,vs2,T2,hh2,hroom⟩|⟨_,h0⟩
 rotate_left
 ·exact absurd h0 (Nat.lt_irrefl _)
 rw[hh]at hh2;cases hh2
 let G'':Gh:={ G' with ρ:=fun _=>none,τ:=fun k=>if k=0 then some (b,0+0,0+cap*sz)else none }
 refine⟨_,G'',{ s' with H:=[],own:=[0],ns:=1 },rfl,⟨fun i c hc=>?_,fun k r hk=>?_,hE.L,hE.cell,hE.w0,hE.F,hE.newL,fun i c m hc=>?_⟩,⟨fun i=>?_,⟨0,fun i _=>?_⟩,fun i j c hi=>?_,fun i c X hi=>?_,fun c o hL=>?_,fun k hk=>?_,fun k hk=>?_,fun k k' _ _ _ _ _ hk hk'=>?_,hR'.below,hR'.base⟩,?_,fun i X hX=>?_,fun k hk=>?_⟩
 ·rw[hB.ρ i (Nat.zero_le _)]at hc;cases hc
 ·rw[hB.τ k]at hk;cases hk
 ·rw[hB.ρ i (Nat.zero_le _)]at hc;cases hc
 ·rw[over_H];simp[look,G'']
 ·rw[over_H];rfl
 ·cases hi
 ·cases hi
 ·exact⟨(hR'.live c o hL).1,fun i hi=>by cases hi⟩
 ·have hk1:1≤k:=hk
  show (if k=0 then some (b,0+0,0+cap*sz)else none)=none
  rw[if_neg (by omega)]
 ·rw[over_own]at hk
  have e:k=0:=by simpa using hk
  subst e
  exact⟨b,0+0,0+cap*sz,rfl,.inr ⟨hF,fun i hi=>(by cases hi),fun o h1 h2 hL=>(hR'.live b o hL).2 0 hρ,vs,T,hh,hroom⟩⟩
 ·rw[over_own]at hk hk'
  have e:k=0:=by simpa using hk
  have e':k'=0:=by simpa using hk'
  intros;omega
 ·simp only[V]
  subst hn0
  exact⟨cap,Nat.zero_le _,.inr ⟨b,0,rfl,by simp only[VC],⟨_,rfl⟩,.inr ⟨by simp,hF,rfl⟩⟩⟩
 ·cases hX
 ·have:k=0:=by omega
  subst this;rfl
theorem CTri.stampNil{P:Program}{f:FuncId}{args:List AV}{sz:Nat}(h:CTri P f [] args (.sl [] 0 .full) [] 0):CTri P f [] args (.sl [] 0 (.st 0 sz)) [] 1:=by
 intro G0 W cargs hB hR hv
 refine(h G0 W cargs hB hR hv).mono ?_
 rintro e W' ⟨u,G',s',rfl,hE,hR',hu,hb,-⟩
 let G'':Gh:={ G' with ρ:=fun _=>none,τ:=fun k=>if k=0 then some (0,1,0)else none }
 refine⟨u,G'',{ s' with H:=[],own:=[0],ns:=1 },rfl,⟨fun i c hc=>?_,fun k r hk=>?_,hE.L,hE.cell,hE.w0,hE.F,hE.newL,fun i c m hc=>?_⟩,⟨fun i=>?_,⟨0,fun i _=>?_⟩,fun i j c hi=>?_,fun i c X hi=>?_,fun c o hL=>?_,fun k hk=>?_,fun k hk=>?_,fun k k' _ _ _ _ _ hk hk'=>?_,hR'.below,hR'.base⟩,?_,fun i X hX=>?_,fun k hk=>?_⟩
 ·rw[hB.ρ i (Nat.zero_le _)]at hc;cases hc
 ·rw[hB.τ k]at hk;cases hk
 ·rw[hB.ρ i (Nat.zero_le _)]at hc;cases hc
 ·rw[over_H];simp[look,G'']
 ·rw[over_H];rfl
 ·cases hi
 ·cases hi
 ·exact⟨(hR'.live c o hL).1,fun i hi=>by cases hi⟩
 ·have hk1:1≤k:=hk
  show (if k=0 then some (0,1,0)else none)=none
  rw[if_neg (by omega)]
 ·rw[over_own]at hk
  have e:k=0:=by simpa using hk
  subst e
  exact⟨0,1,0,rfl,.inl (by decide)⟩
 ·rw[over_own]at hk hk'
  have e:k=0:=by simpa using hk
  have e':k'=0:=by simpa using hk'
  intros;omega
 ·simp only[V]at hu ⊢
  obtain⟨cap,hc,⟨_,_,h3,h4,_⟩|⟨b,off,rfl,_,ho⟩⟩:=hu
  ·exact⟨cap,hc,.inl ⟨(by trivial),(by trivial),h3,h4,_,rfl⟩⟩
  ·have ho':cap=0:=ho
   exact⟨cap,hc,.inr ⟨b,off,rfl,by simp only[VC],⟨_,rfl⟩,.inl ⟨rfl,ho'⟩⟩⟩
 ·cases hX
 ·have:k=0:=by omega
  subst this;rfl
theorem CT.freezeS{P:Program}{f:FuncId}{args cs:List AV}{n c sz:Nat}(h:CT P f [] args (.ms 0 0 n c sz) [.row cs] 0)(hcs:AV.DataL cs)(hl:cs.length=n*sz):CT P f [] args (.sl cs n (.st 0 sz)) [] 1:=
 ⟨h.tri.freezeS hcs hl,h.args,h.H0,hcs,fun _ h=>nomatch h⟩
theorem CT.freezeZ{P:Program}{f:FuncId}{args cs:List AV}{n c sz:Nat}(h:CT P f [] args (.ms 0 0 n c sz) [.row cs] 0)(hn0:n=0):CT P f [] args (.sl [] 0 (.st 0 sz)) [] 1:=
 ⟨h.tri.freezeZ hn0,h.args,h.H0,trivial,fun _ h=>nomatch h⟩
theorem CT.stampNil{P:Program}{f:FuncId}{args:List AV}{sz:Nat}(h:CT P f [] args (.sl [] 0 .full) [] 0):CT P f [] args (.sl [] 0 (.st 0 sz)) [] 1:=
 ⟨h.tri.stampNil,h.args,h.H0,trivial,fun _ h=>nomatch h⟩
end Go.Ab
namespace Go.Ab
open Go Go.RowKit
def gmk{α:Type}(B:Int)(d:α)(n:Int):Option (List α):=if 0≤n∧n*B≤140737488355328 then some (List.replicate n.toNat d)else none
def gchk(n:Nat)(i:Int):Option Nat:=if 0≤i∧i<n then some i.toNat else none
def gset{α:Type}(l:List α)(k:Nat)(x:α):Option (List α):=if k<l.length then some (l.set k x)else none
def gfz{α:Type}(n:Nat)(l:List α):Option (List α):=if l.length=n then some l else none
theorem gfz_spec{α:Type}{n:Nat}{l r:List α}(h:gfz n l=some r):r=l∧n=r.length:=by
 unfold gfz at h
 split at h
 ·rename_i e;cases h;exact⟨rfl,e.symm⟩
 ·cases h
theorem rep_cells{f:Nat->AV}{s:Nat}(hs:0<s):∀n:Nat,(List.range (n*s)).map (fun j=>f (j % s))=(List.replicate n ((List.range s).map f)).flatten
 |0=>by simp
 |n+1=>by
  rw[Nat.add_mul,Nat.one_mul,List.range_add,List.map_append,rep_cells hs n,List.replicate_succ',List.flatten_append]
  congr 1
  simp only[List.map_map,List.flatten_cons,List.flatten_nil,List.append_nil]
  apply List.map_congr_left
  intro j hj
  have:j<s:=List.mem_range.1 hj
  simp[Function.comp,Nat.add_comm (n*s) j,Nat.mod_eq_of_lt this]
theorem flat_rep{α:Type}{c:α->List AV}{d:α}:∀n:Nat,(List.replicate n (c d)).flatten=flat c (List.replicate n d)
 |0=>rfl
 |n+1=>by simp only[List.replicate_succ,List.flatten_cons,flat,List.flatMap_cons];rw[flat_rep n];rfl
theorem mk_ok{P:Program}{α:Type}{c:α->List AV}{sz:Nat}{t e:TypeId}{ie:TypeInfo}{z:Value}(ht:P.underlying t=some (.slice e))(hi:P.info? e=some ie)(hs:ie.size=sz)(hz:ie.zero=some z)(hzs:z.cells.size=sz)(h1:1≤sz){B:Nat}(hb:ie.bytes=B)(hB:1≤B){d:α}
  (hd:(List.range sz).map (fun j=>(ofV 8 (z.cells.getD j undef)).frz)=c d) {n:Int} {l:List α} (h:gmk (B:Int) d n=some l):Ob.ok P (.mk (amakems P t (ai n) (ai n)) (flat c l) l.length):=by
 unfold gmk at h
 split at h
 ·rename_i hc
  cases h
  show amakems P t (ai n) (ai n)=some (flat c (List.replicate n.toNat d),(List.replicate n.toNat d).length)
  unfold amakems
  simp only[ht,hi,hz]
  have hb':(B:Int)≥1:=by omega
  have hn:n≤n*B:=by
   have:=Int.mul_le_mul_of_nonneg_left hb' hc.1
   simpa using this
  rw[if_pos ⟨trivial,hc.1,by rw[hb];exact hc.2,by omega,by rw[hzs,hs],by rw[hs];exact h1⟩]
  simp only[List.length_replicate,Option.some.injEq,Prod.mk.injEq,and_true]
  rw[hs,hzs,rep_cells h1 (f:=fun j=>(ofV 8 (z.cells.getD j undef)).frz),hd,flat_rep]
 ·cases h
theorem chk_ok{P:Program}{t e:TypeId}{ie:TypeInfo}(ht:P.underlying t=some (.slice e))(hi:P.info? e=some ie){sz:Nat}(hs:ie.size=sz){b n k c z:Nat}{i:Int}(h:gchk n i=some k) :
  aindexAddr P t (.ms b 0 n c z) (ai i)=some (.mp b (k*sz)):=by
 unfold gchk at h
 split at h
 ·rename_i hc
  cases h
  unfold aindexAddr
  simp only[ht,hi]
  rw[if_pos hc,hs,Nat.zero_add]
 ·cases h
theorem flat_set{α:Type}{c:α->List AV}{sz:Nat}(hc:∀x,(c x).length=sz):∀(l:List α) (k:Nat) (x:α),k<l.length->splice (flat c l) (k*sz) (c x)=flat c (l.set k x)
 | [],k,x,h=>by simp at h
 |y::l,0,x,h=>by
  simp only[splice,Nat.zero_mul,List.take_zero,List.nil_append,Nat.zero_add,flat,List.flatMap_cons,List.set_cons_zero]
  rw[List.drop_left' (by rw[hc,hc])]
 |y::l,k+1,x,h=>by
  have ih:=flat_set hc l k x (by simpa using h)
  simp only[splice,flat]at ih
  simp only[splice,flat,List.flatMap_cons,List.set_cons_succ]
  rw[←ih]
  have e:(k+1)*sz=sz+k*sz:=by rw[Nat.add_mul,Nat.one_mul,Nat.add_comm]
  rw[e,List.take_append,List.take_of_length_le (by rw[hc];omega),hc,Nat.add_sub_cancel_left,show sz+k*sz+(c x).length=sz+(k*sz+(c x).length) by omega,←List.drop_drop,List.drop_left' (hc y)]
  simp only[List.append_assoc]
theorem wt_elem{P:Program}{α:Type}{c:α->List AV}{sz:Nat}(hc:Codec c sz){l l2:List α}{k:Nat}{x:α}(h:gset l k x=some l2):Ob.ok P (.wt (flat c l) (k*sz) (.agg (c x)) sz (flat c l2)):=by
 unfold gset at h
 split at h
 ·rename_i hk
  cases h
  refine⟨hc.one x,hc.len x,?_,flat_set hc.len l k x hk⟩
  rw[flat_len hc.len]
  have:=Nat.mul_le_mul_right sz (show k+1≤l.length from hk)
  rw[Nat.add_mul,Nat.one_mul]at this
  exact this
 ·cases h
end Go.Ab
namespace Go.Ab
open Go Go.RowKit
def gcut(n:Nat)(a b:Int):Option (Nat×Nat):=if 0≤a∧a≤b∧b≤n then some (a.toNat,(b-a).toNat)else none
theorem gcut_spec{n:Nat}{a b:Int}{r:Nat×Nat}(h:gcut n a b=some r):0≤a∧a≤b∧b≤n∧r.1=a.toNat∧r.2=b.toNat-a.toNat:=by
 unfold gcut at h
 split at h
 ·rename_i q
  cases h
  exact⟨q.1,q.2.1,q.2.2,rfl,by show (b-a).toNat=_;omega⟩
 ·cases h
theorem slMTo_ok{P:Program}{t e:TypeId}{ie:TypeInfo}(ht:P.underlying t=some (.slice e))(hi:P.info? e=some ie){sz:Nat}(hs:ie.size=sz)(h1:1≤sz){b off n c:Nat}{y:Int}{r:Nat×Nat}(h:gcut c 0 y=some r) :
  aslice P t (.ms b off n c sz) none (some (ai y)) none=some (.ms b off r.2 c sz):=by
 obtain⟨q1,q2,q3,q4,q5⟩:=gcut_spec h
 subst hs
 have h2:abound? c c (some (ai y))=some y.toNat:=by
  show (if 0≤y∧y≤(c:Int)then some y.toNat else none)=_
  rw[if_pos ⟨by omega,q3⟩]
 unfold aslice
 simp only[ht,hi,amx,show msb n c (some (ai y)) none=c from rfl,h2]
 rw[if_neg (by simp)]
 simp only[abound?]
 rw[if_pos ⟨trivial,h1⟩,q5]
 simp
theorem wtE{P:Program}{α:Type}{c:α->List AV}{sz:Nat}(hc:Codec c sz){l l2:List α}{k:Nat}{x:α}{cs:List AV}(he:c x=cs)(h:gset l k x=some l2):Ob.ok P (.wt (flat c l) (k*sz) (.agg cs) sz (flat c l2)):=he▸wt_elem hc h
theorem rapp_core{P:Program}{α:Type}{c:α->List AV}{sz:Nat}(hc:Codec c sz){t e:TypeId}{ie:TypeInfo}{z:Value}(ht:P.underlying t=some (.slice e))(hi:P.info? e=some ie)(hs:ie.size=sz)(hz:ie.zero=some z)(hzs:z.cells.size=sz)(h1:1≤sz){B:Nat}(hb:ie.bytes=B)(hB:1≤B)
  {l m r:List α} (h:gapp B l m=some r) (hm:m.length≠0) (z1:Option Nat) (hz1:∀q,z1=some q->q=sz) (src:Option (Nat×Nat×Nat)) (hsrc:∀q,src=some q->q.2.2=sz) :
  rapp P t t z1 (flat c l) l.length src (flat c m) m.length=some (flat c r,r.length):=by
 obtain⟨h2,rfl⟩:=gapp_spec h
 subst hs
 subst hb
 have h3:(l.length+m.length)*1≤(l.length+m.length)*ie.bytes:=Nat.mul_le_mul_left _ hB
 unfold rapp
 simp only[ht,hi,hz]
 rw[if_pos ⟨trivial,flat_len hc.len l,flat_len hc.len m,h1,hzs,h2,by omega,flat_one hc.one m,hm,hz1,hsrc⟩,flat_app,List.length_append]
theorem rappN_ok{P:Program}{α:Type}{c:α->List AV}{sz:Nat}(hc:Codec c sz){t e:TypeId}{ie:TypeInfo}{z:Value}(ht:P.underlying t=some (.slice e))(hi:P.info? e=some ie)(hs:ie.size=sz)(hz:ie.zero=some z)(hzs:z.cells.size=sz)(h1:1≤sz){B:Nat}(hb:ie.bytes=B)(hB:1≤B)
  {m r:List α} (h:gapp B ([]:List α) m=some r) (hm:m.length≠0):Ob.ok P (.mk (rapp P t t none [] 0 none (flat c m) m.length) (flat c r) r.length):=
 rapp_core hc ht hi hs hz hzs h1 hb hB h hm none (fun _ h=>nomatch h) none (fun _ h=>nomatch h)
theorem same_ok{P:Program}{t e:TypeId}{ie:TypeInfo}(ht:P.underlying t=some (.slice e))(hi:P.info? e=some ie){n:Nat}(h:n=0):Ob.ok P (.same t t n):=⟨rfl,h,e,ie,ht,hi⟩
end Go.Ab
namespace Go.Ab
open Go Go.RowKit
abbrev slv {α:Type} (c:α->List AV) (l:List α) (o:Own):AV:=.sl (flat c l) l.length o
abbrev nos (n:Nat):List Orc:=List.replicate n .no
structure OL (P:Program) (os:List Orc) (ob:List Ob):Prop where
 ok:ObsOk P ob
theorem ObsOk.rev{P:Program}:∀(a b:List Ob),ObsOk P a->ObsOk P b->ObsOk P (a.reverseAux b)
 | [],_,_,k=>k
 |x::a,b,h,k=>ObsOk.rev a (x::b) h.2 ⟨h.1,k⟩
section
variable {P:Program} {os:List Orc} {ob:List Ob}
theorem OL.nil:OL P [] []:=⟨trivial⟩
theorem oB{b b':Bool}(n:Nat)(h:b=b')(k:OL P os ob):OL P (.bit b'::(nos n++os)) (.bit b b'::ob):=⟨⟨h,k.ok⟩⟩
theorem oA{x:Option AV}{a:AV}(n:Nat)(h:x=some a)(k:OL P os ob):OL P (.av a::(nos n++os)) (.av x a::ob):=⟨⟨h,k.ok⟩⟩
theorem oC{f:FuncId}{H0:List Blk}{args:List AV}{res:AV}{H1:List Blk}{nst:Nat}(n:Nat)(ι:List Nat)(h:CT P f H0 args res H1 nst)(k:OL P os ob):OL P (.call ι H1 nst res none::(nos n++os)) (.call f H0 args res H1 nst::ob):=⟨⟨h,k.ok⟩⟩
theorem oK{b b':Bool}{f:FuncId}{H0:List Blk}{args:List AV}{res:AV}{H1:List Blk}{nst:Nat}(n:Nat)(ι:List Nat)(hb:b=b')(h:CT P f H0 args res H1 nst)(k:OL P os ob):OL P (.call ι H1 nst res (some b')::(nos n++os)) (.call f H0 args res H1 nst :: .bit b b'::ob):=⟨⟨h,hb,k.ok⟩⟩
theorem oP{t t2:TypeId}{es es2 es':List AV}{n1 n2 n' sz:Nat}{e:Bool}(n:Nat)(h:Ob.ok P (.app t t2 es es2 es' n1 n2 n' sz e))(k:OL P os ob):OL P (.app es' n' sz e::(nos n++os)) (.app t t2 es es2 es' n1 n2 n' sz e::ob):=⟨⟨h,k.ok⟩⟩
theorem oS{cs es:List AV}{l m:Nat}(n:Nat)(h:Ob.ok P (.cells cs es l m))(k:OL P os ob):OL P (.sl es m::(nos n++os)) (.cells cs es l m::ob):=⟨⟨h,k.ok⟩⟩
theorem oL{t:TypeId}{X:Blk}{key:AV}{o:Bool}{a:AV}(n:Nat)(h:Ob.ok P (.lk t X key o a))(k:OL P os ob):OL P (.lk a::(nos n++os)) (.lk t X key o a::ob):=⟨⟨h,k.ok⟩⟩
theorem oU{t:TypeId}{X Y:Blk}{key v:AV}(n:Nat)(h:Ob.ok P (.mu t X key v Y))(k:OL P os ob):OL P (.mu Y::(nos n++os)) (.mu t X key v Y::ob):=⟨⟨h,k.ok⟩⟩
theorem oM{x:Option (List AV×Nat)}{cs:List AV}{m:Nat}(n:Nat)(h:Ob.ok P (.mk x cs m))(k:OL P os ob):OL P (.mk cs m::(nos n++os)) (.mk x cs m::ob):=⟨⟨h,k.ok⟩⟩
theorem oW{cs:List AV}{off:Nat}{v:AV}{sz:Nat}{cs':List AV}(n:Nat)(h:Ob.ok P (.wt cs off v sz cs'))(k:OL P os ob):OL P (.wt cs'::(nos n++os)) (.wt cs off v sz cs'::ob):=⟨⟨h,k.ok⟩⟩
theorem oQ{t t2:TypeId}{m:Nat}(n:Nat)(h:Ob.ok P (.same t t2 m))(k:OL P os ob):OL P (.same::(nos n++os)) (.same t t2 m::ob):=⟨⟨h,k.ok⟩⟩
theorem oD{es:List AV}(h:AV.DataL es)(k:OL P os ob):OL P os (.data es::ob):=⟨⟨h,k.ok⟩⟩
end
theorem spl{α:Type}{b:Bool}{x y:Option α}{r:α}(h:(if b=true then x else y)=some r):(b=true∧x=some r)∨(b=false∧y=some r):=by
 cases b
 ·exact .inr ⟨rfl,by simpa using h⟩
 ·exact .inl ⟨rfl,by simpa using h⟩
theorem spT{α:Type}{b:Bool}{x:Option α}{r:α}(h:(if b=true then x else none)=some r):b=true∧x=some r:=by
 rcases spl h with h|⟨_,h⟩
 ·exact h
 ·cases h
theorem splF{α:Type}{b:Bool}{x:Option α}{r:α}(h:(if b=true then none else x)=some r):b=false∧x=some r:=by
 rcases spl h with⟨_,h⟩|h
 ·cases h
 ·exact h
theorem nn{α:Type}{r:α}{p:Prop}(h:(none:Option α)=some r):p:=nomatch h
theorem ifFe{α:Type}{b:Bool}{x y:α}(h:b=false):(if b=true then x else y)=y:=by subst h;rfl
theorem obk{α β:Type}{f:Option α}{k:α->Option β}{a:α}{r:β}(h:f=some a)(h2:k a=some r):(f>>=k)=some r:=by subst h;exact h2
theorem sj{α:Type}{x y:α}(h:some x=some y):x=y:=Option.some.inj h
def sp(j:Nat->Value):Nat->Nat->List (Nat×AV)->List AV
 |0,_,_=>[]
 |n+1,i,l=>match l with
  | []=>.val (j i)::sp j n (i+1) []
  | (m,a)::l'=>bif Nat.beq m i then a::sp j n (i+1) l' else .val (j i)::sp j n (i+1) l
section
variable {P:Program} {pr:FuncId->List AV->LSt->Option LA} (hp:CallsOk P pr) (hm:P.follows .mixedOrders=true) {na:Nb} {fn:Func} {f:FuncId}
include hp hm
theorem OL.toHead{H0 H1:List Blk}{args:List AV}{res:AV}{nst:Nat}(q:P.funcs[f]? = some fn∧fn.body.isNone=false)(m:Nat)(rs:List (Option Nat×Nat×Nat))(keep ks live:List Nat){os:List Orc}{ob:List Ob}(k:OL P os ob){c:Code}{fs':List Fr}{E:(Nat->Value)->List AV}{S:LSt}
  (hk:∀j,Dl P H0.length c (E j) S (frameQ P H0.length (FinQ P H0.length fn res H1 nst) fs'))
  (h:∀j,khead P pr H0.length 3000 (.run (bod fn)) [] (args++List.replicate (fn.ntmps-args.length) (.val undef)) (st0 H0) ((nos m++os).reverseAux []) rs keep ks live j=some (c,fs',E j,S,ob.reverseAux [])):CTri P f H0 args res H1 nst:=
 CTri.toHead hp hm q.1 q.2 3000 _ rs keep ks live h (ObsOk.rev _ _ k.ok trivial) hk
theorem OL.toFin{H0 H1:List Blk}{args:List AV}{res:AV}{nst:Nat}(q:P.funcs[f]? = some fn∧fn.body.isNone=false)(m:Nat)(rs:List (Option Nat×Nat×Nat))(keep ks:List Nat)(own:Bool){os:List Orc}{ob:List Ob}(k:OL P os ob)
  (h:kfin P pr H0.length fn 3000 (.run (bod fn)) [] (args++List.replicate (fn.ntmps-args.length) (.val undef)) (st0 H0) ((nos m++os).reverseAux []) rs keep ks own=some (res,H1,ob.reverseAux [])) (hn:nst≤ks.length):CTri P f H0 args res H1 nst:=
 CTri.toFin hp hm q.1 q.2 3000 _ rs keep ks own h (ObsOk.rev _ _ k.ok trivial) hn
theorem OL.lHead{Q:AX->List AV->LSt->Prop}{c c':Code}{fs fs':List Fr}{env:List AV}{s S:LSt}(m:Nat)(rs:List (Option Nat×Nat×Nat))(keep ks live:List Nat){os:List Orc}{ob:List Ob}(k:OL P os ob){E:(Nat->Value)->List AV}
  (hk:∀j,Dl P na c' (E j) S (frameQ P na Q fs')) (h:∀j,khead P pr na.n 3000 (.run c) (.loop c::fs) env s ((nos m++os).reverseAux []) rs keep ks live j=some (c',fs',E j,S,ob.reverseAux [])):Dl P na c env s (frameQ P na Q fs):=
 Dl.toHead hp hm 3000 _ rs keep ks live h (ObsOk.rev _ _ k.ok trivial) hk
theorem OL.lFin{c:Code}{fs:List Fr}{env:List AV}{s:LSt}{res:AV}{H1:List Blk}{nst:Nat}(m:Nat)(rs:List (Option Nat×Nat×Nat))(keep ks:List Nat)(own:Bool){os:List Orc}{ob:List Ob}(k:OL P os ob)
  (h:kfin P pr na.n fn 3000 (.run c) (.loop c::fs) env s ((nos m++os).reverseAux []) rs keep ks own=some (res,H1,ob.reverseAux [])) (hn:nst≤ks.length):Dl P na c env s (frameQ P na (FinQ P na fn res H1 nst) fs):=
 Dl.toFin hp hm 3000 _ rs keep ks own h (ObsOk.rev _ _ k.ok trivial) hn
end
end Go.Ab
namespace Go.Ab
open Go Go.RowKit
def gbs(s:ByteArray):List U8:=s.data.toList.map fun b=>(b.toNat:Int)
theorem gbs_len(s:ByteArray):(gbs s).length=s.size:=by unfold gbs;rw[List.length_map,Array.length_toList];rfl
theorem byteA_flat(s:ByteArray):byteA s=flat u8C (gbs s):=by
 unfold byteA gbs
 generalize s.data.toList=l
 induction l with
 |nil=>rfl
 |cons b l ih=>
  unfold flat at ih ⊢
  rw[List.map_cons,List.map_cons,List.flatMap_cons,ih];rfl
section
variable {P:Program} {t t2 e:TypeId} {ie:TypeInfo} {z:Value}
theorem aps_core(ht:P.underlying t=some (.slice e))(hu:P.underlying t2=some .string)(hi:P.info? e=some ie)(hs:ie.size=1)(hz:ie.zero=some z)(hzs:z.cells.size=1)(hb:ie.bytes=1)
  {l r:List U8} {bs:ByteArray} (h:gapp 1 l (gbs bs)=some r) {o:Own} {s:LSt} {ev:Operand->AV} :
  aappendS P t t2 ev (.sl (flat u8C l) l.length o) bs s=bif Nat.beq bs.size 0 then some { ev:=ev,v:=.sl (flat u8C l) l.length o }
     else
      match o with
      | .full=>some { ev:=ev,ns:=s.ns,new:=1,v:=.sl (flat u8C r) r.length (.st s.ns 1) }
      | .nl=>some { ev:=ev,ns:=s.ns,new:=1,v:=.sl (flat u8C r) r.length (.st s.ns 1) }
      | .st k sz'=>bif s.own.any (Nat.beq k)&&Nat.beq sz' 1 then some { ev:=ev,use:=[k],ns:=s.ns,new:=1,v:=.sl (flat u8C r) r.length (.st s.ns 1) }else none
      |_=>none:=by
 obtain⟨h2,rfl⟩:=gapp_spec h
 rw[gbs_len]at h2
 unfold aappendS
 simp only[ht,hu,hi,hz,hs,hb]
 have hcond:(Nat.beq (flat u8C l).length (l.length*1)&&Nat.beq 1 1&&Nat.beq z.cells.size 1&&Nat.ble ((l.length+bs.size)*1) 140737488355328&&Nat.ble (l.length+bs.size) 4611686018427387904)=true:=by
  simp only[Bool.and_eq_true]
  exact⟨⟨⟨⟨by rw[flat_len codecU.len];simp,rfl⟩,by rw[hzs];rfl⟩,by simpa using h2⟩,by simp;omega⟩
 rw[hcond]
 simp only[cond_true,flat_app,List.length_append,gbs_len,byteA_flat]
 cases o<;>rfl
theorem aps_some(ht:P.underlying t=some (.slice e))(hu:P.underlying t2=some .string)(hi:P.info? e=some ie)(hs:ie.size=1)(hz:ie.zero=some z)(hzs:z.cells.size=1)(hb:ie.bytes=1)
  {l r:List U8} {bs:ByteArray} (h:gapp 1 l (gbs bs)=some r) (hm:bs.size≠0):Ob.ok P (.aps t t2 (flat u8C l) bs (flat u8C r) l.length r.length 1 false):=by
 intro ev s o
 rw[aps_core ht hu hi hs hz hzs hb h]
 cases hn:Nat.beq bs.size 0 with
 |true=>exact absurd (Nat.eq_of_beq_eq_true hn) hm
 |false=>cases o<;>rfl
theorem aps_none(ht:P.underlying t=some (.slice e))(hu:P.underlying t2=some .string)(hi:P.info? e=some ie)(hs:ie.size=1)(hz:ie.zero=some z)(hzs:z.cells.size=1)(hb:ie.bytes=1)
  {l r:List U8} {bs:ByteArray} (h:gapp 1 l (gbs bs)=some r) (hm:bs.size=0):Ob.ok P (.aps t t2 (flat u8C l) bs (flat u8C r) l.length r.length 1 true):=by
 intro ev s o
 rw[aps_core ht hu hi hs hz hzs hb h]
 obtain⟨_,rfl⟩:=gapp_spec h
 have:gbs bs=[]:=List.length_eq_zero_iff.1 (by rw[gbs_len,hm])
 rw[hm,this,List.append_nil];rfl
end
section
variable {P:Program} {os:List Orc} {ob:List Ob}
theorem oMz{x:Option (List AV×Nat)}{cs:List AV}{m:Nat}(n:Nat)(h:Ob.ok P (.mk x cs m))(k:OL P os ob):OL P (.mz cs m::(nos n++os)) (.mk x cs m::ob):=⟨⟨h,k.ok⟩⟩
theorem oCx{f:FuncId}{H0:List Blk}{args:List AV}{res:AV}{H1:List Blk}{nst:Nat}(n:Nat)(ι:List Nat)(h:CT P f H0 args res H1 nst)(k:OL P os ob):OL P (.callx ι H1 nst res none::(nos n++os)) (.call f H0 args res H1 nst::ob):=⟨⟨h,k.ok⟩⟩
theorem oCl(n:Nat)(k:OL P os ob):OL P (.cl::(nos n++os)) ob:=⟨k.ok⟩
theorem oCk{f:FuncId}{H0:List Blk}{args:List AV}{res:AV}{H1:List Blk}{nst:Nat}(n:Nat)(ι:List Nat)(kp:List (Nat×Nat))(h:CT P f H0 args res H1 nst)(hk:KpOk H0 H1 kp)(k:OL P os ob):OL P (.callk kp ι H1 nst res::(nos n++os)) (.call f H0 args res H1 nst :: .kp H0 H1 kp::ob):=⟨⟨h,hk,k.ok⟩⟩
theorem oMks{x:Option (List AV×Nat)}{cs:List AV}{m:Nat}(n:Nat)(h:Ob.ok P (.mk x cs m))(k:OL P os ob):OL P (.mks cs m::(nos n++os)) (.mk x cs m::ob):=⟨⟨h,k.ok⟩⟩
theorem oCv{x:Option ByteArray}{bs:ByteArray}(n:Nat)(h:Ob.ok P (.str x bs))(k:OL P os ob):OL P (.cv bs::(nos n++os)) (.str x bs::ob):=⟨⟨h,k.ok⟩⟩
theorem rappS_typ{t t2 e:TypeId}{ie:TypeInfo}{z:Value}(ht:P.underlying t=some (.slice e))(hu:P.underlying t2=some .string)(hi:P.info? e=some ie)(hs:ie.size=1)(hz:ie.zero=some z)(hzs:z.cells.size=1)(hb:ie.bytes=1)
  {l r:List U8} {bs:ByteArray} {z1:Option Nat} (hz1:∀q,z1=some q->q=1) (h:gapp 1 l (gbs bs)=some r) (hm:¬bs.size=0):Ob.ok P (.mk (rappS P t t2 z1 (flat u8C l) l.length bs) (flat u8C r) r.length):=by
 obtain⟨h2,rfl⟩:=gapp_spec h
 rw[gbs_len]at h2
 show rappS P t t2 z1 (flat u8C l) l.length bs=some (flat u8C (l++gbs bs),(l++gbs bs).length)
 unfold rappS
 simp only[ht,hu,hi,hz,hs,hb]
 rw[if_pos ⟨by rw[flat_len codecU.len],trivial,hzs,by omega,by omega,hm,hz1⟩,byteA_flat,flat_app,List.length_append,gbs_len]
theorem aints_flat:∀l:List U8,aints (flat u8C l)=some l
 | []=>rfl
 |x::l=>by
  show aints (.val (.int .u8 x)::flat u8C l)=_
  rw[aints,aints_flat l];rfl
theorem arow_typ{t d e:TypeId}(hs:P.underlying t=some (.slice e))(hd:P.underlying d=some .string)(he:P.underlying e=some (.int .u8))(l:List U8):Ob.ok P (.str (arowstr P t d (flat u8C l) l.length) (gstr l)):=by
 show arowstr P t d (flat u8C l) l.length=some (gstr l)
 have h1:(flat u8C l).length=l.length:=by rw[flat_len codecU.len,Nat.mul_one]
 unfold arowstr
 simp only[hs,hd,he]
 rw[List.take_of_length_le (by omega),aints_flat]
 simp
theorem zr_ok{t t2:TypeId}{k:IntKind}(h2:P.underlying t2=some (.int k)){n:Int}(hp:n>0){cs:List AV}{m:Nat}(h:Ob.ok P (.mk (amakems P t (ai n) (ai n)) cs m)):Ob.ok P (.mk (azero P t t2 (ai n)) cs m):=by
 show azero P t t2 (ai n)=some (cs,m)
 unfold azero
 rw[h2]
 simp only
 rw[if_pos (by omega)]
 exact h
theorem oPs{t t2:TypeId}{es es':List AV}{bs:ByteArray}{n1 n' sz:Nat}{e:Bool}(n:Nat)(h:Ob.ok P (.aps t t2 es bs es' n1 n' sz e))(k:OL P os ob):OL P (.app es' n' sz e::(nos n++os)) (.aps t t2 es bs es' n1 n' sz e::ob):=⟨⟨h,k.ok⟩⟩
end
end Go.Ab
namespace Go.Ab
open Go Go.RowKit
abbrev EntZ:=Ent
def entZ(e:Ent):List AV:=
  [ai e.kind,at' e.name,ai e.type.k,ai e.type.n,.sl (flat tmCells e.type.sub) e.type.sub.length .no,ai e.body.k,ai e.body.n,.sl (flat tmCells e.body.sub) e.body.sub.length .no,
   ai e.fam,ai e.place,ai e.pars,ai e.inds,ai e.level,.sl (flat intC e.cons) e.cons.length .z,.sl (flat intC e.fields) e.fields.length .z]
theorem codecEZ:Codec entZ 15:=⟨fun _=>rfl,fun x=>⟨trivial,trivial,trivial,trivial,⟨trivial,dT _⟩,trivial,trivial,⟨trivial,dT _⟩,trivial,trivial,trivial,trivial,trivial,⟨trivial,dI _⟩,⟨trivial,dI _⟩,trivial⟩,fun _=>rfl⟩
theorem dEZ(l:List Ent):AV.DataL (flat entZ l):=flat_data codecEZ.data l
theorem CT.wk{P:Program}{f:FuncId}{H0:List Blk}{args:List AV}{res res':AV}{H1:List Blk}{nst:Nat}(h:CT P f H0 args res H1 nst)(k:Wk res res')(hf:res'.fine (fun i=>i<H1.length)):CT P f H0 args res' H1 nst:=by
 refine⟨fun G0 W cargs hB hR hv=>(h.tri G0 W cargs hB hR hv).mono ?_,h.args,h.H0,hf,h.H1⟩
 rintro e W' ⟨u,G',s',h1,h2,h3,h4,h5⟩
 exact⟨u,G',s',h1,h2,h3,k _ _ _ h4,h5⟩
theorem V.znil{G:Gh}{w:World}{u:Value}(h:V G w (.sl [] 0 .z) u):V G w (.sl [] 0 .full) u:=by
 simp only[V,OwnOk]at h ⊢
 obtain⟨cap,hc,⟨h1,h2,h3,h4,h5⟩|⟨b,off,h1,h2,h3⟩⟩:=h
 ·exact⟨cap,hc,.inl ⟨h1,h2,h3,h4,trivial⟩⟩
 ·exact⟨cap,hc,.inr ⟨b,off,h1,h2,h3 (by trivial)⟩⟩
theorem CT.zfull{P:Program}{f:FuncId}{args:List AV}(h:CT P f [] args (.sl [] 0 .full) [] 0):CT P f [] args (.sl [] 0 .z) [] 0:=
 h.wk (by
  intro G w u h
  simp only[V,OwnOk]at h ⊢
  obtain⟨cap,hc,⟨h1,h2,h3,h4,h5⟩|⟨b,off,h1,h2,h3⟩⟩:=h
  ·exact⟨cap,hc,.inl ⟨h1,h2,h3,h4,trivial⟩⟩
  ·exact⟨cap,hc,.inr ⟨b,off,h1,h2,fun _=>h3⟩⟩) trivial
theorem CT.zno{P:Program}{f:FuncId}{args es:List AV}{n:Nat}(hn:n≠0)(hd:AV.DataL es)(h:CT P f [] args (.sl es n .no) [] 0):CT P f [] args (.sl es n .z) [] 0:=
 h.wk (by
  intro G w u h
  simp only[V,OwnOk]at h ⊢
  obtain⟨cap,hc,⟨h1,h2,h3,h4,h5⟩|⟨b,off,h1,h2,h3⟩⟩:=h
  ·exact(hn h2).elim
  ·exact⟨cap,hc,.inr ⟨b,off,h1,h2,fun e=>(hn e).elim⟩⟩) hd
theorem V.unown{G:Gh}{w:World}{es:List AV}{n:Nat}{o:Own}{u:Value}(h:V G w (.sl es n o) u):V G w (.sl es n .no) u:=V.frz _ _ h
theorem VC.entZ{G:Gh}{w:World}:∀(l:List Ent) (b off:Nat),VC G w (flat Ab.entZ l) b off->VC G w (flat entL l) b off
 | [],_,_,_=>by simp[flat,VC]
 |e::l,b,off,h=>by
  have h':VC G w (Ab.entZ e++flat Ab.entZ l) b off:=h
  show VC G w (entL e++flat entL l) b off
  simp only[Ab.entZ,entL,List.cons_append,List.nil_append,VC]at h' ⊢
  obtain⟨l0,c0,l1,c1,l2,c2,l3,c3,l4,c4,l5,c5,l6,c6,l7,c7,l8,c8,l9,c9,l10,c10,l11,c11,l12,c12,l13,⟨v13,e13,h13⟩,l14,⟨v14,e14,h14⟩,hr⟩:=h'
  exact⟨l0,c0,l1,c1,l2,c2,l3,c3,l4,c4,l5,c5,l6,c6,l7,c7,l8,c8,l9,c9,l10,c10,l11,c11,l12,c12,l13,⟨v13,e13,V.unown h13⟩,l14,⟨v14,e14,V.unown h14⟩,VC.entZ l _ _ hr⟩
theorem wkr(a:AV):Wk a a:=fun _ _ _ h=>h
theorem wkE(l:List Ent)(o:Own):Wk (.sl (flat entZ l) l.length o) (.sl (flat entL l) l.length .no):=by
 intro G w u h
 simp only[V]at h ⊢
 obtain⟨cap,hc,hh⟩:=h
 refine⟨cap,hc,?_⟩
 rcases hh with⟨h1,h2,h3,h4,h5⟩|⟨b,off,hu,hcells,ho⟩
 ·have:l=[]:=List.length_eq_zero_iff.1 h2
  subst this
  exact .inl ⟨rfl,rfl,h3,h4,trivial⟩
 ·exact .inr ⟨b,off,hu,VC.entZ l b off hcells,trivial⟩
theorem wkC{x:Ent}(h:x.cons.isEmpty=true):Wk (.agg (entZ x)) (.agg [ai x.kind,at' x.name,ai x.type.k,ai x.type.n,.sl (flat tmCells x.type.sub) x.type.sub.length .no,ai x.body.k,ai x.body.n,.sl (flat tmCells x.body.sub) x.body.sub.length .no,
   ai x.fam,ai x.place,ai x.pars,ai x.inds,ai x.level,.sl (flat intC ([]:List Int)) ([]:List Int).length .full,.sl (flat intC x.fields) x.fields.length .no]):=by
  intro G w u hv
  have hc:x.cons=[]:=List.isEmpty_iff.1 h
  simp only[V,Ab.entZ,hc]at hv ⊢
  obtain⟨vs,rfl,hl⟩:=hv
  refine⟨vs,rfl,?_⟩
  match vs,hl with
  | [v0,v1,v2,v3,v4,v5,v6,v7,v8,v9,v10,v11,v12,v13,v14],hl=>
    simp only[VL]at hl ⊢
    obtain⟨h0,h1,h2,h3,h4,h5,h6,h7,h8,h9,h10,h11,h12,h13,h14,_⟩:=hl
    exact⟨h0,h1,h2,h3,h4,h5,h6,h7,h8,h9,h10,h11,h12,V.znil h13,V.unown h14,trivial⟩
section
variable {P:Program} {os:List Orc} {ob:List Ob}
theorem oWk{a0 a:AV}(n:Nat)(h:Wk a0 a)(k:OL P os ob):OL P (.wk a::(nos n++os)) (.wk a0 a::ob):=⟨⟨h,k.ok⟩⟩
end
end Go.Ab
namespace Go.Ab
open Go Go.RowKit
def SlowOk(P:Program)(fs:FuncId):Prop:=∀(b off:Nat) (fc:FuncId) (first caps:Array Value) (W:World) (R:World->Prop),
 W.cell? ⟨b,off,none⟩=some (.int .u32 0)->W.cell? ⟨b,off+1,none⟩=some (.int .i32 0)->W.frozen? ⟨b,off,none⟩=false->W.frozen? ⟨b,off+1,none⟩=false ->
 (∀w,(callFunc fc (first++caps)).run P w = .ok (.enter fc (first++caps)) w) ->
 Calls P fc (first++caps) (W.setCell ⟨b,off+1,none⟩ (.int .i32 1)) (fun e w2=>e = .returned (.tuple #[])∧w2.cell? ⟨b,off,none⟩=some (.int .u32 0)∧w2.cell? ⟨b,off+1,none⟩=some (.int .i32 1)∧w2.frozen? ⟨b,off,none⟩=false∧w2.frozen? ⟨b,off+1,none⟩=false∧R w2) ->
 Calls P fs #[.pointer (some ⟨b,off,none⟩),.func (.func fc) first caps] W (fun e w'=>e = .returned (.tuple #[])∧∃w2,R w2∧w'=(w2.drew.setCell ⟨b,off,none⟩ (.int .u32 1)).setCell ⟨b,off+1,none⟩ (.int .i32 0))
theorem at_int{G:Gh}{σ:ASt}{w:World}(hR:RelS G σ w){i b off:Nat}{cs:List AV}(hb:G.ρ i=some b)(hX:σ.H i=some (.cells cs)){k:IntKind}{x:Int}(ha:cs[off]? = some (.val (.int k x))) :
  w.cell? ⟨b,off,none⟩=some (.int k x)∧w.frozen? ⟨b,off,none⟩=false:=by
 obtain⟨b',vs,T,x',hb',e,hh,hl,hcell,hfr,hx⟩:=at_cell hR hX ha (u:=.pointer (some ⟨b,off,none⟩)) (by simp only[V];exact⟨b,hb,rfl⟩)
 rw[hb]at hb'
 cases hb'
 simp only[V]at hx
 subst hx
 exact⟨hcell,hfr⟩
theorem at_put{G:Gh}{σ:ASt}{w:World}(hR:RelS G σ w){i b off:Nat}{cs:List AV}(hb:G.ρ i=some b)(hX:σ.H i=some (.cells cs))(hi:off<cs.length)(v:Value) :
  Ext G w G (w.setCell ⟨b,off,none⟩ v)∧RelS G ⟨up σ.H i (.cells (cs.set off (.val v))),σ.own,σ.ns⟩ (w.setCell ⟨b,off,none⟩ v):=by
 obtain⟨b',hb',_,vs,T,hh,hl⟩:=hR.look hX
 rw[hb]at hb'
 cases hb'
 exact at_set hR hb hh hl hi hX v
theorem once_slow{P:Program}{fs fc:FuncId}(hs:SlowOk P fs)(he:∀args w,(callFunc fc args).run P w = .ok (.enter fc args) w){H0 H1 H0' H1':List Blk}{caps:List AV}{j off:Nat}{cs ds:List AV}
  (h:CT P fc H0' caps (.tup []) H1' 0) (e0:H0'[j]? = some (.cells cs)) (d0:cs[off]? = some (.val (.int .u32 0))) (l0:cs[off+1]? = some (.val (.int .i32 1)))
  (e1:H1'[j]? = some (.cells ds)) (d1:ds[off]? = some (.val (.int .u32 0))) (l1:ds[off+1]? = some (.val (.int .i32 1)))
  (q0:H0=H0'.set j (.cells (cs.set (off+1) (.val (.int .i32 0))))) (q1:H1=H1'.set j (.cells ((ds.set off (.val (.int .u32 1))).set (off+1) (.val (.int .i32 0))))) :
  CTri P fs H0 [.mp j off,.clo fc [] caps] (.tup []) H1 0:=by
 subst q0 q1
 intro G0 W cargs hB hR hv
 obtain⟨u1,u2,rfl,h1,h2⟩:=list_two hv
 simp only[V]at h1 h2
 obtain⟨b,hb,rfl⟩:=h1
 obtain⟨l,r,rfl,hl,hr⟩:=h2
 have hl0:l=[]:=List.length_eq_zero_iff.1 (VL.length _ _ hl)
 subst hl0
 have hj:j<H0'.length:=(List.getElem?_eq_some_iff.1 e0).1
 have hlen:(H0'.set j (.cells (cs.set (off+1) (.val (.int .i32 0))))).length=H0'.length:=List.length_set
 have hX:(over (Emp 0) (st0 (H0'.set j (.cells (cs.set (off+1) (.val (.int .i32 0))))))).H j=some (.cells (cs.set (off+1) (.val (.int .i32 0)))):=by
  rw[st0_H,List.getElem?_set_self hj]
 have ho1:off+1<cs.length:=(List.getElem?_eq_some_iff.1 l0).1
 have c0:=at_int hR hb hX (off:=off) (k:=.u32) (x:=0) (by rw[List.getElem?_set_ne (by omega)];exact d0)
 have c1:=at_int hR hb hX (off:=off+1) (k:=.i32) (x:=0) (by rw[List.getElem?_set_self ho1])
 obtain⟨hE1,hR1⟩:=at_put hR hb hX (off:=off+1) (by simpa using ho1) (.int .i32 1)
 have hst:(⟨up (over (Emp 0) (st0 (H0'.set j (.cells (cs.set (off+1) (.val (.int .i32 0))))))).H j (.cells ((cs.set (off+1) (.val (.int .i32 0))).set (off+1) (.val (.int .i32 1)))),(over (Emp 0) (st0 (H0'.set j (.cells (cs.set (off+1) (.val (.int .i32 0))))))).own,(over (Emp 0) (st0 (H0'.set j (.cells (cs.set (off+1) (.val (.int .i32 0))))))).ns⟩:ASt)=over (Emp 0) (st0 H0'):=by
  have hH:up (over (Emp 0) (st0 (H0'.set j (.cells (cs.set (off+1) (.val (.int .i32 0))))))).H j (.cells ((cs.set (off+1) (.val (.int .i32 0))).set (off+1) (.val (.int .i32 1))))=(over (Emp 0) (st0 H0')).H:=by
   funext i
   by_cases e:i=j
   ·subst e
    rw[up_same,st0_H,e0,List.set_set]
    have:cs.set (off+1) (.val (.int .i32 1))=cs:=by
     apply List.ext_getElem?
     intro k
     by_cases ek:k=off+1
     ·subst ek;rw[List.getElem?_set_self ho1,l0]
     ·rw[List.getElem?_set_ne (Ne.symm ek)]
    rw[this]
   ·rw[up_ne _ _ e,st0_H,st0_H,List.getElem?_set_ne (Ne.symm e)]
  rw[hH]
  rfl
 rw[hst]at hR1
 rw[hlen]at hB
 have hcall:=h.tri G0 _ r.toArray hB hR1 (VL.mono hE1 _ _ (by simpa using hr))
 refine(hs b off fc #[] r.toArray W (fun w2=>∃G' s',Ext G0 W G' w2∧RelS G' (over (Emp 0) s') w2∧∀i X,H1'[i]? = some X->look s'.H i=some X) c0.1 c1.1 c0.2 c1.2 (he _) ?_).mono ?_
 ·rw[Array.empty_append]
  refine hcall.mono ?_
  rintro e w2 ⟨u,G',s',rfl,g1,g2,g3,g4,-⟩
  simp only[V]at g3
  obtain⟨vs,rfl,g5⟩:=g3
  have:vs=[]:=List.length_eq_zero_iff.1 (VL.length _ _ g5)
  subst this
  have hX2:(over (Emp 0) s').H j=some (.cells ds):=by rw[over_H];exact g4 j _ e1
  have a0:=at_int g2 (g1.ρ _ _ hb) hX2 d1
  have a1:=at_int g2 (g1.ρ _ _ hb) hX2 l1
  exact⟨rfl,a0.1,a1.1,a0.2,a1.2,G',s',hE1.trans g1,g2,g4⟩
 ·rintro e w' ⟨rfl,w2,⟨G',s',g1,g2,g4⟩,rfl⟩
  have hX2:(over (Emp 0) s').H j=some (.cells ds):=by rw[over_H];exact g4 j _ e1
  have hb2:=g1.ρ _ _ hb
  have hod:off+1<ds.length:=(List.getElem?_eq_some_iff.1 l1).1
  have hE2:=Ext.drew G' w2
  have g2':=RelS.drew g2
  obtain⟨hE3,hR3⟩:=at_put g2' hb2 hX2 (off:=off) (by omega) (.int .u32 1)
  obtain⟨hE4,hR4⟩:=at_put hR3 hb2 (off:=off+1) (cs:=ds.set off (.val (.int .u32 1))) (up_same _ _ _) (by simpa using hod) (.int .i32 0)
  refine⟨_,G',{ s' with H:=(j,.cells ((ds.set off (.val (.int .u32 1))).set (off+1) (.val (.int .i32 0))))::s'.H },rfl,((g1.trans hE2).trans hE3).trans hE4,?_,by simp only[V];exact⟨[],rfl,by simp[VL]⟩,fun i X hi=>?_,fun k hk=>by omega⟩
  ·have:(⟨up (up (over (Emp 0) s').H j (.cells (ds.set off (.val (.int .u32 1))))) j (.cells ((ds.set off (.val (.int .u32 1))).set (off+1) (.val (.int .i32 0)))),(over (Emp 0) s').own,(over (Emp 0) s').ns⟩:ASt)=over (Emp 0) { s' with H:=(j,.cells ((ds.set off (.val (.int .u32 1))).set (off+1) (.val (.int .i32 0))))::s'.H }:=by
    have hH:up (up (over (Emp 0) s').H j (.cells (ds.set off (.val (.int .u32 1))))) j (.cells ((ds.set off (.val (.int .u32 1))).set (off+1) (.val (.int .i32 0))))=(over (Emp 0) { s' with H:=(j,.cells ((ds.set off (.val (.int .u32 1))).set (off+1) (.val (.int .i32 0))))::s'.H }).H:=by
     funext i
     rw[over_H]
     by_cases e:i=j
     ·subst e;rw[up_same];simp[look]
     ·rw[up_ne _ _ e,up_ne _ _ e,over_H]
      simp[look,beq_ne e]
    rw[hH]
    rfl
   rw[←this];exact hR4
  ·by_cases e:i=j
   ·subst e
    have hi1:i<H1'.length:=(List.getElem?_eq_some_iff.1 e1).1
    rw[List.getElem?_set_self hi1]at hi
    cases hi
    simp[look]
   ·rw[List.getElem?_set_ne (Ne.symm e)]at hi
    simp only[look,beq_ne e,cond_false]
    exact g4 i X hi
end Go.Ab
namespace Go.Proofs.YtcpbenbhnbjcoaaGreat
open Go Go.Ab
theorem on_disable(w:World):(callFunc 296 #[]).run Tryz.prog w = .ok (.value (.tuple #[])) w:=run_call_mark0 Tryz.func296 (by kernel_rfl) (by kernel_rfl) (by kernel_rfl) .disable (by kernel_rfl) w
theorem on_enable(w:World):(callFunc 298 #[]).run Tryz.prog w = .ok (.value (.tuple #[])) w:=run_call_mark0 Tryz.func298 (by kernel_rfl) (by kernel_rfl) (by kernel_rfl) .enable (by kernel_rfl) w
theorem on_acquire(a:Addr)(w:World):(callFunc 299 #[.pointer (some a)]).run Tryz.prog w = .ok (.value (.tuple #[])) w:=run_call_marked Tryz.func299 (by kernel_rfl) (by kernel_rfl) (by kernel_rfl) .acquire (by kernel_rfl) a w
theorem on_release(a:Addr)(w:World):(callFunc 301 #[.pointer (some a)]).run Tryz.prog w = .ok (.value (.tuple #[])) w:=run_call_marked Tryz.func301 (by kernel_rfl) (by kernel_rfl) (by kernel_rfl) .releaseMerge (by kernel_rfl) a w
set_option maxRecDepth 100000 in
set_option maxHeartbeats 1600000 in
theorem on_store(a:Addr)(x:Value)(u:FrameMode)(w:World)(hc:w.cell? a=some x)(hz:w.frozen? a=false) :
  CallsD Tryz.prog 41 #[.pointer (some a),.bool true] u w fun e u' w'=>u'=u∧(e = .returned (.tuple #[])∧w'=w.drew.setCell a (.int .u32 1)):=by
 have hc':w.drew.cell? a=some x:=by go_simp
 have hz':w.drew.frozen? a=false:=by go_simp
 have hst:=run_call_store (P:=Tryz.prog) Tryz.func71 (by kernel_rfl) (by kernel_rfl) (by kernel_rfl) (by kernel_rfl) (k:=.u32) (y:=1) hc' hz'
 go_enter_d Tryz.func41,Tryz.ntmps41
 go_wp2
 go_region_calls
 all_goals (go_end0;exact⟨rfl,rfl⟩)
set_option maxRecDepth 100000 in
set_option maxHeartbeats 1600000 in
theorem on_unlock(a:Addr)(u:FrameMode)(w:World)(hc:w.cell? a=some (.int .i32 1))(hz:w.frozen? a=false) :
  CallsD Tryz.prog 118 #[.pointer (some a)] u w fun e u' w'=>u'=u∧(e = .returned (.tuple #[])∧w'=w.setCell a (.int .i32 0)):=by
 have hd:=on_disable
 have he:=on_enable
 have hr:=on_release
 have hadd:=run_call_add (P:=Tryz.prog) Tryz.func302 (by kernel_rfl) (by kernel_rfl) (by kernel_rfl) .i32 (by kernel_rfl) (y:=-1) (s:=0) hc hz (by simp[go_sem];rfl)
 have hcv:=run_convert_to_unsafe (P:=Tryz.prog) (src:=424) (dst:=428) Tryz.underlying424 Tryz.underlying428 (by kernel_rfl) hc
 go_enter_d Tryz.func118,Tryz.ntmps118
 go_wp2
 go_end0
 go_wp2
 go_end0
 exact⟨rfl,rfl⟩
set_option maxRecDepth 100000 in
set_option maxHeartbeats 1600000 in
theorem on_lock(a:Addr)(w:World)(hc:w.cell? a=some (.int .i32 0))(hz:w.frozen? a=false) :
  Calls Tryz.prog 117 #[.pointer (some a)] w fun e w'=>e = .returned (.tuple #[])∧w'=w.setCell a (.int .i32 1):=by
 have hd:=on_disable
 have he:=on_enable
 have ha:=on_acquire
 have hcas:=run_call_cas_hit (P:=Tryz.prog) Tryz.func297 (by kernel_rfl) (by kernel_rfl) (by kernel_rfl) .i32 (by kernel_rfl) (y:=1) hc hz
 have hc':(w.setCell a (.int .i32 1)).cell? a=some (.int .i32 1):=World.cell?_setCell_same w a _ hc
 have hcv:=run_convert_to_unsafe (P:=Tryz.prog) (src:=424) (dst:=428) Tryz.underlying424 Tryz.underlying428 (by kernel_rfl) hc'
 go_enter Tryz.func117,Tryz.ntmps117
 go_wp2
 first|go_end0 | (simp only[Exit.inBlock,Exit.then];refine bodyPost_ret (results_none rfl _ _ _) rfl ?_)|refine bodyPost_ret (results_none rfl _ _ _) rfl ?_
 go_wp2
 go_end0
 exact⟨rfl,rfl⟩
set_option maxRecDepth 100000 in
set_option maxHeartbeats 1600000 in
theorem slow_ok:SlowOk Tryz.prog 70:=by
 intro b off fc first caps w R h0 h1 f0 f1 hce hcl
 have hl:=run_call_load (P:=Tryz.prog) Tryz.func53 (by kernel_rfl) (by kernel_rfl) (by kernel_rfl) .u32 (by kernel_rfl) (w:=w.setCell ⟨b,off+1,none⟩ (.int .i32 1)) (a:=⟨b,off,none⟩) (x:=0) ((World.cell?_setCell_other _ ⟨b,off+1,none⟩ ⟨b,off,none⟩ _ (by simp)).trans h0)
 have hnot:∀(x:Bool) (w:World),(Op.unary .not (.bool x)).run Tryz.prog w = .ok (.bool (!x)) w:=fun _ _=>rfl
 go_enter_defers Tryz.func70,Tryz.ntmps70
 go_wp2_with (go_at_call 117;refine(on_lock ⟨b,off+1,none⟩ _ (by go_simp) (by go_simp)).mono ?_;rintro e w' ⟨rfl,rfl⟩)
 go_wp2
 refine hcl.mono ?_
 rintro e w2 ⟨rfl,a0,a1,z0,z1,hR⟩
 go_wp2
 trace_state
 refine leaves_cons (f:=41) (args:=#[.pointer (some ⟨b,off,none⟩),.bool true]) (by simp) (by simp[go_sem]) ?_
 refine(on_store ⟨b,off,none⟩ (.int .u32 0) .returning _ a0 z0).mono ?_
 rintro e u' w'' ⟨rfl,rfl,rfl⟩
 refine leaves_cons (f:=118) (args:=#[.pointer (some ⟨b,off+1,none⟩)]) (by simp[settle]) (by simp[go_sem]) ?_
 refine(on_unlock ⟨b,off+1,none⟩ _ _ ?_ (by simp[z1])).mono ?_
 ·refine(World.cell?_setCell_other _ ⟨b,off,none⟩ ⟨b,off+1,none⟩ _ (by simp)).trans ?_
  rw[World.cell?_drew]
  exact a1
 rintro e u' w'' ⟨rfl,rfl,rfl⟩
 simp[Leaves,settle,results,Tryz.results70]
 exact⟨w2,hR,rfl⟩
end Go.Proofs.YtcpbenbhnbjcoaaGreat
set_option linter.unusedSimpArgs false
namespace Go.Ab
open Go Go.RowKit
def slC{α:Type}(c:α->List AV)(l:List α):List AV:=[.sl (flat c l) l.length .no]
theorem codSl{α:Type}{c:α->List AV}{n:Nat}(h:Codec c n):Codec (slC c) 1:=⟨fun _=>rfl,fun l=>⟨⟨trivial,flat_data h.data l⟩,trivial⟩,fun _=>rfl⟩
theorem dSl{α:Type}{c:α->List AV}{n:Nat}(h:Codec c n)(l:List (List α)):AV.DataL (flat (slC c) l):=flat_data (codSl h).data l
theorem obLitR{P:Program}{α:Type}{C L:α->List AV}(he:∀t,C t=L t)(l:List α):Ob.ok P (.cells (flat L l) (flat C l) l.length l.length):=⟨by rw[show L=C from funext fun t=>(he t).symm],rfl⟩
structure FileResult where
 sig_:List Ent
 done_:Int
 used_:List Int
 e_:Int
 at_:Int
 line_:Int
 col_:Int
instance:Inhabited FileResult:=⟨⟨default,default,default,default,default,default,default⟩⟩
def fileResultL(x:FileResult):List AV:=[slv entL x.sig_ .no,ai x.done_,slv intC x.used_ .no,ai x.e_,ai x.at_,ai x.line_,ai x.col_]
def fileResultA(x:FileResult):AV:=.agg (fileResultL x)
structure FileTold where
 value_:ByteArray
 type_:ByteArray
 steps_:Int
instance:Inhabited FileTold:=⟨⟨⟨#[]⟩,⟨#[]⟩,default⟩⟩
def fileToldL(x:FileTold):List AV:=[at' x.value_,at' x.type_,ai x.steps_]
def fileToldA(x:FileTold):AV:=.agg (fileToldL x)
structure CorpusSample where
 expr_:ByteArray
 value_:ByteArray
 type_:ByteArray
instance:Inhabited CorpusSample:=⟨⟨⟨#[]⟩,⟨#[]⟩,⟨#[]⟩⟩⟩
def corpusSampleL(x:CorpusSample):List AV:=[at' x.expr_,at' x.value_,at' x.type_]
theorem codecCorpusSample:Codec corpusSampleL 3:=⟨fun _=>rfl,fun _=>⟨trivial,trivial,trivial,trivial⟩,fun _=>rfl⟩
theorem dCorpusSample(l:List CorpusSample):AV.DataL (flat corpusSampleL l):=flat_data codecCorpusSample.data l
structure CorpusRefusal where
 decl_:ByteArray
 word_:ByteArray
instance:Inhabited CorpusRefusal:=⟨⟨⟨#[]⟩,⟨#[]⟩⟩⟩
def corpusRefusalL(x:CorpusRefusal):List AV:=[at' x.decl_,at' x.word_]
theorem codecCorpusRefusal:Codec corpusRefusalL 2:=⟨fun _=>rfl,fun _=>⟨trivial,trivial,trivial⟩,fun _=>rfl⟩
theorem dCorpusRefusal(l:List CorpusRefusal):AV.DataL (flat corpusRefusalL l):=flat_data codecCorpusRefusal.data l
inductive TreeNode where
 |mk (kind_:Int) (at_:Int) (name_:ByteArray) (n_:Int) (sub_:List TreeNode)
def TreeNode.kind_:TreeNode->Int | .mk x _ _ _ _=>x
def TreeNode.at_:TreeNode->Int | .mk _ x _ _ _=>x
def TreeNode.name_:TreeNode->ByteArray | .mk _ _ x _ _=>x
def TreeNode.n_:TreeNode->Int | .mk _ _ _ x _=>x
def TreeNode.sub_:TreeNode->List TreeNode | .mk _ _ _ _ x=>x
instance:Inhabited TreeNode:=⟨.mk default default ⟨#[]⟩ default default⟩
mutual
def treeNodeC:TreeNode->List AV
 | .mk kind_ at_ name_ n_ sub_=>[ai kind_,ai at_,at' name_,ai n_,.sl (treeNodesC sub_) sub_.length .no]
def treeNodesC:List TreeNode->List AV
 | []=>[]
 |t::l=>treeNodeC t++treeNodesC l
end
theorem treeNodes_flat:∀l:List TreeNode,treeNodesC l=flat treeNodeC l
 | []=>rfl
 |t::l=>by simp only[treeNodesC,treeNodes_flat l,flat,List.flatMap_cons]
def treeNodeL(x:TreeNode):List AV:=[ai x.kind_,ai x.at_,at' x.name_,ai x.n_,slv treeNodeC x.sub_ .no]
theorem treeNode_eq(x:TreeNode):treeNodeC x=treeNodeL x:=by
 cases x;simp only[treeNodeC,treeNodeL,TreeNode.kind_,TreeNode.at_,TreeNode.name_,TreeNode.n_,TreeNode.sub_,treeNodes_flat,List.cons_append,List.nil_append]
def treeNodeA(x:TreeNode):AV:=.agg (treeNodeL x)
mutual
theorem treeNode_data:∀t:TreeNode,AV.DataL (treeNodeC t)
 | .mk kind_ at_ name_ n_ sub_=>by rw[treeNodeC];exact⟨trivial,trivial,trivial,trivial,⟨trivial,treeNodes_data sub_⟩,trivial⟩
theorem treeNodes_data:∀l:List TreeNode,AV.DataL (treeNodesC l)
 | []=>trivial
 |t::l=>by rw[treeNodesC];exact DataL_append (treeNode_data t) (treeNodes_data l)
end
theorem codecTreeNode:Codec treeNodeC 5:=⟨fun x=>by rw[treeNode_eq];rfl,treeNode_data,fun x=>by rw[treeNode_eq];rfl⟩
theorem dTreeNode(l:List TreeNode):AV.DataL (flat treeNodeC l):=flat_data codecTreeNode.data l
structure TreeBind where
 name_:ByteArray
 at_:Int
 type_:TreeNode
instance:Inhabited TreeBind:=⟨⟨⟨#[]⟩,default,default⟩⟩
def treeBindL(x:TreeBind):List AV:=[at' x.name_,ai x.at_,ai x.type_.kind_,ai x.type_.at_,at' x.type_.name_,ai x.type_.n_,slv treeNodeC x.type_.sub_ .no]
def treeBindA(x:TreeBind):AV:=.agg (treeBindL x)
theorem codecTreeBind:Codec treeBindL 7:=⟨fun _=>rfl,fun _=>⟨trivial,trivial,trivial,trivial,trivial,trivial,⟨trivial,dTreeNode _⟩,trivial⟩,fun _=>rfl⟩
theorem dTreeBind(l:List TreeBind):AV.DataL (flat treeBindL l):=flat_data codecTreeBind.data l
structure TreeRow where
 at_:Int
 pats_:List TreeNode
 has_:Bool
 body_:TreeNode
instance:Inhabited TreeRow:=⟨⟨default,default,default,default⟩⟩
def treeRowL(x:TreeRow):List AV:=[ai x.at_,slv treeNodeC x.pats_ .no,ab x.has_,ai x.body_.kind_,ai x.body_.at_,at' x.body_.name_,ai x.body_.n_,slv treeNodeC x.body_.sub_ .no]
theorem codecTreeRow:Codec treeRowL 8:=⟨fun _=>rfl,fun _=>⟨trivial,⟨trivial,dTreeNode _⟩,trivial,trivial,trivial,trivial,trivial,⟨trivial,dTreeNode _⟩,trivial⟩,fun _=>rfl⟩
theorem dTreeRow(l:List TreeRow):AV.DataL (flat treeRowL l):=flat_data codecTreeRow.data l
structure TreeDecl where
 kind_:Int
 at_:Int
 name_:ByteArray
 tele_:List TreeBind
 type_:TreeNode
 cons_:List TreeBind
 rows_:List TreeRow
instance:Inhabited TreeDecl:=⟨⟨default,default,⟨#[]⟩,default,default,default,default⟩⟩
def treeDeclL(x:TreeDecl):List AV:=[ai x.kind_,ai x.at_,at' x.name_,slv treeBindL x.tele_ .no,ai x.type_.kind_,ai x.type_.at_,at' x.type_.name_,ai x.type_.n_,slv treeNodeC x.type_.sub_ .no,slv treeBindL x.cons_ .no,slv treeRowL x.rows_ .no]
def treeDeclA(x:TreeDecl):AV:=.agg (treeDeclL x)
theorem codecTreeDecl:Codec treeDeclL 11:=⟨fun _=>rfl,fun _=>⟨trivial,trivial,trivial,⟨trivial,dTreeBind _⟩,trivial,trivial,trivial,trivial,⟨trivial,dTreeNode _⟩,⟨trivial,dTreeBind _⟩,⟨trivial,dTreeRow _⟩,trivial⟩,fun _=>rfl⟩
theorem dTreeDecl(l:List TreeDecl):AV.DataL (flat treeDeclL l):=flat_data codecTreeDecl.data l
structure UnifySolved where
 n_:Int
 t_:Tm
instance:Inhabited UnifySolved:=⟨⟨default,default⟩⟩
structure FreeVar where
 n_:Int
 type_:Tm
instance:Inhabited FreeVar:=⟨⟨default,default⟩⟩
mutual
inductive CoverKid where
 |mk (con_:Int) (yes_:Bool) (args_:List Int) (solved_:List UnifySolved) (t_:CoverTree)
inductive CoverTree where
 |mk (kind_:Int) (row_:Int) (var_:Int) (vars_:List FreeVar) (binds_:List Tm) (args_:List Tm) (kids_:List CoverKid)
end
instance:Inhabited CoverTree:=⟨.mk default default default default default default default⟩
instance:Inhabited CoverKid:=⟨.mk default default default default default⟩
structure ElabBody where
 has_:Bool
 term_:Tm
instance:Inhabited ElabBody:=⟨⟨default,default⟩⟩
inductive PatternPat where
 |mk (kind_:Int) (n_:Int) (at_:Int) (sub_:List PatternPat) (t_:Tm)
instance:Inhabited PatternPat:=⟨.mk default default default default default⟩
structure DefineRead where
 types_:List Tm
 result_:Tm
 rows_:List (List PatternPat)
 names_:List (List ByteArray)
 bodies_:List ElabBody
 tree_:CoverTree
 type_:Tm
instance:Inhabited DefineRead:=⟨⟨default,default,default,default,default,default,default⟩⟩
structure ElabProblem where
 types_:List Tm
 result_:Tm
 tree_:CoverTree
 bodies_:List ElabBody
instance:Inhabited ElabProblem:=⟨⟨default,default,default,default⟩⟩
structure TokenToken where
 kind_:Int
 text_:ByteArray
 at_:Int
instance:Inhabited TokenToken:=⟨⟨default,⟨#[]⟩,default⟩⟩
def tokenTokenL(x:TokenToken):List AV:=[ai x.kind_,at' x.text_,ai x.at_]
def tokenTokenA(x:TokenToken):AV:=.agg (tokenTokenL x)
theorem codecTokenToken:Codec tokenTokenL 3:=⟨fun _=>rfl,fun _=>⟨trivial,trivial,trivial,trivial⟩,fun _=>rfl⟩
theorem dTokenToken(l:List TokenToken):AV.DataL (flat tokenTokenL l):=flat_data codecTokenToken.data l
structure ParseReader where
 l_:List TokenToken
 i_:Int
 at_:Int
 bad_:Int
instance:Inhabited ParseReader:=⟨⟨default,default,default,default⟩⟩
structure CoverFault where
 e_:Int
 row_:Int
 at_:Int
instance:Inhabited CoverFault:=⟨⟨default,default,default⟩⟩
structure ScopeScoper where
 l_:List Ent
 e_:Int
 at_:Int
instance:Inhabited ScopeScoper:=⟨⟨default,default,default⟩⟩
structure CoverPlace where
 c_:List FreeVar
 args_:List Tm
instance:Inhabited CoverPlace:=⟨⟨default,default⟩⟩
structure SplitBranch where
 con_:Int
 yes_:Bool
 args_:List Int
 vars_:List FreeVar
 solved_:List UnifySolved
instance:Inhabited SplitBranch:=⟨⟨default,default,default,default,default⟩⟩
structure IotaRules where
 l_:List Ent
 parts_:List Con'
instance:Inhabited IotaRules:=⟨⟨default,default⟩⟩
structure PrintBuffer where
 b_:List U8
 long_:Bool
instance:Inhabited PrintBuffer:=⟨⟨default,default⟩⟩
structure PrintWriter where
 buffer_:PrintBuffer
instance:Inhabited PrintWriter:=⟨⟨default⟩⟩
structure TokenReader where
 signs_:List Int
 at_:List Int
 i_:Int
instance:Inhabited TokenReader:=⟨⟨default,default,default⟩⟩
structure PatternReader where
 l_:List Ent
 names_:List ByteArray
 e_:Int
 at_:Int
instance:Inhabited PatternReader:=⟨⟨default,default,default,default⟩⟩
structure CoverHeld where
 out_:Bool
 stuck_:Bool
 waits_:Bool
 none_:Bool
 n_:Int
 at_:Int
 binds_:List Tm
instance:Inhabited CoverHeld:=⟨⟨default,default,default,default,default,default,default⟩⟩
structure ElabCut where
 x_:Int
 d_:Int
 pars_:List Tm
 inds_:List Tm
 ys_:List Int
 theta_:List FreeVar
 typ_:Tm
 level_:Int
 plain_:Bool
instance:Inhabited ElabCut:=⟨⟨default,default,default,default,default,default,default,default,default⟩⟩
structure IotaMaker where
 e_:Int
instance:Inhabited IotaMaker:=⟨⟨default⟩⟩
structure CallsFinder where
 fn_:Int
 n_:Int
 out_:List (List Tm)
 e_:Int
instance:Inhabited CallsFinder:=⟨⟨default,default,default,default⟩⟩
structure ElabPair where
 p_:Tm
 t_:Tm
instance:Inhabited ElabPair:=⟨⟨default,default⟩⟩
structure ElabRec where
 t_:Tm
 around_:List Int
 at_:List Tm
 ih_:Int
instance:Inhabited ElabRec:=⟨⟨default,default,default,default⟩⟩
structure UnifyAnswer where
 yes_:Bool
 vars_:List FreeVar
 solved_:List UnifySolved
 steps_:List Int
instance:Inhabited UnifyAnswer:=⟨⟨default,default,default,default⟩⟩
structure UnifyEquation where
 a_:Tm
 b_:Tm
instance:Inhabited UnifyEquation:=⟨⟨default,default⟩⟩
structure A3ByteArray where
 a:ByteArray
 b:ByteArray
 c:ByteArray
instance:Inhabited A3ByteArray:=⟨⟨⟨#[]⟩,⟨#[]⟩,⟨#[]⟩⟩⟩
def a3ByteArrayL(x:A3ByteArray):List AV:=[at' x.a,at' x.b,at' x.c]
theorem codecA3ByteArray:Codec a3ByteArrayL 3:=⟨fun _=>rfl,fun _=>⟨trivial,trivial,trivial,trivial⟩,fun _=>rfl⟩
theorem dA3ByteArray(l:List A3ByteArray):AV.DataL (flat a3ByteArrayL l):=flat_data codecA3ByteArray.data l
structure A2ByteArray where
 a:ByteArray
 b:ByteArray
instance:Inhabited A2ByteArray:=⟨⟨⟨#[]⟩,⟨#[]⟩⟩⟩
def a2ByteArrayL(x:A2ByteArray):List AV:=[at' x.a,at' x.b]
theorem codecA2ByteArray:Codec a2ByteArrayL 2:=⟨fun _=>rfl,fun _=>⟨trivial,trivial,trivial⟩,fun _=>rfl⟩
theorem dA2ByteArray(l:List A2ByteArray):AV.DataL (flat a2ByteArrayL l):=flat_data codecA2ByteArray.data l
end Go.Ab
namespace Go.Proofs.YtcpbenbhnbjcoaaGreat
open Go Go.Ab
theorem bcases(b:Bool):b=true∨b=false:=by cases b<;>simp
theorem forall_nil{α:Type}{p:α->Prop}:∀x∈([]:List α),p x:=fun _ h=>nomatch h
theorem forall_cons{α:Type}{p:α->Prop}{a:α}{l:List α}(h:p a)(k:∀x∈l,p x):∀x∈a::l,p x:=by
 intro x hx
 rcases List.mem_cons.1 hx with rfl|hx
 ·exact h
 ·exact k x hx
theorem o0:OL Tryz.prog [] []:=OL.nil
abbrev mB (M:Mach) (i:Nat):Blk:=.cells [slv entL M.l .no,.mp i 0,slv intC M.args .no,slv intC M.own .no]
abbrev mR (M:Mach):Blk:=.cells [slv entL M.rl .no,slv conL M.parts .no]
theorem tv:True:=trivial
theorem lz{a b:Nat}(h:Nat.ble (a+1) b=true):a<b:=Nat.le_of_ble_eq_true h
abbrev Ct:=CT Tryz.prog
abbrev Ci:=CTri Tryz.prog
abbrev Cf:=FuncId->List Blk->List AV->AV->List Blk->Nat->Prop
abbrev Qf (f:FuncId) (fn:Func):Prop:=Tryz.prog.funcs[f]? = some fn∧fn.body.isNone=false
section
variable {f:FuncId} {fn:Func} {H0 H1:List Blk} {args:List AV} {res:AV} {nst:Nat} {os:List Orc} {ob:List Ob}
theorem tF(q:Qf f fn)(m:Nat)(keep:List Nat)(k:OL Tryz.prog os ob)(h:kfin Tryz.prog prim H0.length fn 3000 (.run (bod fn)) [] (args++List.replicate (fn.ntmps-args.length) (.val undef)) (st0 H0) ((nos m++os).reverseAux []) [] keep [] false=some (res,H1,ob.reverseAux []):=by kernel_rfl):CTri Tryz.prog f H0 args res H1 0:=OL.toFin prim_ok mixed q m [] keep [] false k h (Nat.le_refl _)
theorem tG(q:Qf f fn)(m:Nat)(rs:List (Option Nat×Nat×Nat))(keep ks:List Nat)(own:Bool)(k:OL Tryz.prog os ob)(h:kfin Tryz.prog prim H0.length fn 3000 (.run (bod fn)) [] (args++List.replicate (fn.ntmps-args.length) (.val undef)) (st0 H0) ((nos m++os).reverseAux []) rs keep ks own=some (res,H1,ob.reverseAux []):=by kernel_rfl)(hn:nst≤ks.length:=by decide):CTri Tryz.prog f H0 args res H1 nst:=OL.toFin prim_ok mixed q m rs keep ks own k h hn
theorem tH(q:Qf f fn)(m:Nat)(rs:List (Option Nat×Nat×Nat))(keep ks live:List Nat)(k:OL Tryz.prog os ob){c:Code}{fs':List Fr}{E:(Nat->Value)->List AV}{S:LSt}(hk:∀j,Dl Tryz.prog H0.length c (E j) S (frameQ Tryz.prog H0.length (FinQ Tryz.prog H0.length fn res H1 nst) fs'))(h:∀j,khead Tryz.prog prim H0.length 3000 (.run (bod fn)) [] (args++List.replicate (fn.ntmps-args.length) (.val undef)) (st0 H0) ((nos m++os).reverseAux []) rs keep ks live j=some (c,fs',E j,S,ob.reverseAux []):=by intro j;kernel_rfl):CTri Tryz.prog f H0 args res H1 nst:=OL.toHead prim_ok mixed q m rs keep ks live k hk h
variable {na:Nb} {Q:AX->List AV->LSt->Prop} {c c':Code} {fs fs':List Fr} {env:List AV} {s S:LSt}
theorem lH(m:Nat)(rs:List (Option Nat×Nat×Nat))(keep ks live:List Nat)(k:OL Tryz.prog os ob){E:(Nat->Value)->List AV}(hk:∀j,Dl Tryz.prog na c' (E j) S (frameQ Tryz.prog na Q fs'))(h:∀j,khead Tryz.prog prim na.n 3000 (.run c) (.loop c::fs) env s ((nos m++os).reverseAux []) rs keep ks live j=some (c',fs',E j,S,ob.reverseAux []):=by intro j;kernel_rfl):Dl Tryz.prog na c env s (frameQ Tryz.prog na Q fs):=OL.lHead prim_ok mixed m rs keep ks live k hk h
theorem lF(m:Nat)(keep:List Nat)(k:OL Tryz.prog os ob)(h:kfin Tryz.prog prim na.n fn 3000 (.run c) (.loop c::fs) env s ((nos m++os).reverseAux []) [] keep [] false=some (res,H1,ob.reverseAux []):=by kernel_rfl):Dl Tryz.prog na c env s (frameQ Tryz.prog na (FinQ Tryz.prog na fn res H1 0) fs):=OL.lFin prim_ok mixed m [] keep [] false k h (Nat.le_refl _)
theorem lG(m:Nat)(rs:List (Option Nat×Nat×Nat))(keep ks:List Nat)(own:Bool)(k:OL Tryz.prog os ob)(h:kfin Tryz.prog prim na.n fn 3000 (.run c) (.loop c::fs) env s ((nos m++os).reverseAux []) rs keep ks own=some (res,H1,ob.reverseAux []):=by kernel_rfl)(hn:nst≤ks.length:=by decide):Dl Tryz.prog na c env s (frameQ Tryz.prog na (FinQ Tryz.prog na fn res H1 nst) fs):=OL.lFin prim_ok mixed m rs keep ks own k h hn
end
theorem info80:Tryz.prog.info? 80=some Tryz.t80:=by kernel_rfl
theorem info83:Tryz.prog.info? 83=some Tryz.t83:=by kernel_rfl
theorem apN23{l m r:List Ent}(h:gapp 192 l m=some r)(hm:m.length=0):Ob.ok Tryz.prog (.app 23 23 (flat entL l) (flat entL m) (flat entL r) l.length m.length r.length 15 true):=app_none' codecE Tryz.underlying23 info83 rfl rfl rfl (by decide) rfl (by decide) h hm
theorem info3:Tryz.prog.info? 3=some Tryz.t3:=by kernel_rfl
theorem apN24{l m r:List Int}(h:gapp 8 l m=some r)(hm:m.length=0):Ob.ok Tryz.prog (.app 24 24 (flat intC l) (flat intC m) (flat intC r) l.length m.length r.length 1 true):=app_none' codecI Tryz.underlying24 info3 rfl rfl rfl (by decide) rfl (by decide) h hm
theorem info9:Tryz.prog.info? 9=some Tryz.t9:=by kernel_rfl
theorem apN56{l m r:List ByteArray}(h:gapp 16 l m=some r)(hm:m.length=0):Ob.ok Tryz.prog (.app 56 56 (flat strC l) (flat strC m) (flat strC r) l.length m.length r.length 1 true):=app_none' codecS Tryz.underlying56 info9 rfl rfl rfl (by decide) rfl (by decide) h hm
theorem info366:Tryz.prog.info? 366=some Tryz.t366:=by kernel_rfl
theorem apN90{l m r:List TreeBind}(h:gapp 88 l m=some r)(hm:m.length=0):Ob.ok Tryz.prog (.app 90 90 (flat treeBindL l) (flat treeBindL m) (flat treeBindL r) l.length m.length r.length 7 true):=app_none' codecTreeBind Tryz.underlying90 info366 rfl rfl rfl (by decide) rfl (by decide) h hm
theorem apQ24{n:Nat}(h:n=0):Ob.ok Tryz.prog (.same 24 24 n):=same_ok Tryz.underlying24 info3 h
theorem apQ78{n:Nat}(h:n=0):Ob.ok Tryz.prog (.same 78 78 n):=same_ok Tryz.underlying78 info80 h
theorem info96:Tryz.prog.info? 96=some Tryz.t96:=by kernel_rfl
theorem apS119{l m r:List TreeDecl}(h:gapp 168 l m=some r)(hm:m.length≠0):Ob.ok Tryz.prog (.app 119 119 (flat treeDeclL l) (flat treeDeclL m) (flat treeDeclL r) l.length m.length r.length 11 false):=app_some codecTreeDecl Tryz.underlying119 info96 rfl rfl rfl (by decide) rfl (by decide) h hm
theorem info181:Tryz.prog.info? 181=some Tryz.t181:=by kernel_rfl
theorem apS177{l m r:List TokenToken}(h:gapp 32 l m=some r)(hm:m.length≠0):Ob.ok Tryz.prog (.app 177 177 (flat tokenTokenL l) (flat tokenTokenL m) (flat tokenTokenL r) l.length m.length r.length 3 false):=app_some codecTokenToken Tryz.underlying177 info181 rfl rfl rfl (by decide) rfl (by decide) h hm
theorem apS23{l m r:List Ent}(h:gapp 192 l m=some r)(hm:m.length≠0):Ob.ok Tryz.prog (.app 23 23 (flat entL l) (flat entL m) (flat entL r) l.length m.length r.length 15 false):=app_some codecE Tryz.underlying23 info83 rfl rfl rfl (by decide) rfl (by decide) h hm
theorem apS24{l m r:List Int}(h:gapp 8 l m=some r)(hm:m.length≠0):Ob.ok Tryz.prog (.app 24 24 (flat intC l) (flat intC m) (flat intC r) l.length m.length r.length 1 false):=app_some codecI Tryz.underlying24 info3 rfl rfl rfl (by decide) rfl (by decide) h hm
theorem apS56{l m r:List ByteArray}(h:gapp 16 l m=some r)(hm:m.length≠0):Ob.ok Tryz.prog (.app 56 56 (flat strC l) (flat strC m) (flat strC r) l.length m.length r.length 1 false):=app_some codecS Tryz.underlying56 info9 rfl rfl rfl (by decide) rfl (by decide) h hm
theorem apS90{l m r:List TreeBind}(h:gapp 88 l m=some r)(hm:m.length≠0):Ob.ok Tryz.prog (.app 90 90 (flat treeBindL l) (flat treeBindL m) (flat treeBindL r) l.length m.length r.length 7 false):=app_some codecTreeBind Tryz.underlying90 info366 rfl rfl rfl (by decide) rfl (by decide) h hm
theorem apSZ23{l m r:List EntZ}(h:gapp 192 l m=some r)(hm:m.length≠0):Ob.ok Tryz.prog (.app 23 23 (flat entZ l) (flat entZ m) (flat entZ r) l.length m.length r.length 15 false):=app_some codecEZ Tryz.underlying23 info83 rfl rfl rfl (by decide) rfl (by decide) h hm
theorem info5:Tryz.prog.info? 5=some Tryz.t5:=by kernel_rfl
theorem apT264_9{l r:List U8}{bs:ByteArray}(h:gapp 1 l (gbs bs)=some r)(hm:(gbs bs).length≠0):Ob.ok Tryz.prog (.aps 264 9 (flat u8C l) bs (flat u8C r) l.length r.length 1 false):=aps_some Tryz.underlying264 Tryz.underlying9 info5 rfl rfl rfl rfl h (by rwa[gbs_len]at hm)
theorem apTN264_9{l r:List U8}{bs:ByteArray}(h:gapp 1 l (gbs bs)=some r)(hm:(gbs bs).length=0):Ob.ok Tryz.prog (.aps 264 9 (flat u8C l) bs (flat u8C r) l.length r.length 1 true):=aps_none Tryz.underlying264 Tryz.underlying9 info5 rfl rfl rfl rfl h (by rwa[gbs_len]at hm)
theorem apW24{m r:List Int}(h:gapp 8 ([]:List Int) m=some r)(hm:m.length≠0):Ob.ok Tryz.prog (.mk (rapp Tryz.prog 24 24 (none) [] 0 none (flat intC m) m.length) (flat intC r) r.length):=rappN_ok codecI Tryz.underlying24 info3 rfl rfl rfl (by decide) rfl (by decide) h hm
theorem apW78{m r:List Tm}(h:gapp 40 ([]:List Tm) m=some r)(hm:m.length≠0):Ob.ok Tryz.prog (.mk (rapp Tryz.prog 78 78 (none) [] 0 none (flat tmCells m) m.length) (flat tmCells r) r.length):=rappN_ok codecT Tryz.underlying78 info80 rfl rfl rfl (by decide) rfl (by decide) h hm
theorem apWS264_9{r:List U8}{bs:ByteArray}(h:gapp 1 ([]:List U8) (gbs bs)=some r)(hm:¬bs.size=0):Ob.ok Tryz.prog (.mk (rappS Tryz.prog 264 9 none [] 0 bs) (flat u8C r) r.length):=rappS_typ Tryz.underlying264 Tryz.underlying9 info5 rfl rfl rfl rfl (l:=[]) (fun q e=>nomatch e) h hm
theorem cv264_9(l:List U8){o:Own}:aconvert Tryz.prog 264 9 (.sl (flat u8C l) l.length o)=some (at' (gstr l)):=cvStr_ok Tryz.underlying264 Tryz.underlying9 Tryz.underlying5 l
theorem cvR264_9(l:List U8):Ob.ok Tryz.prog (.str (arowstr Tryz.prog 264 9 (flat u8C l) l.length) (gstr l)):=arow_typ Tryz.underlying264 Tryz.underlying9 Tryz.underlying5 l
theorem ix119{l:List TreeDecl}{i:Int}{o:Own}{x:TreeDecl}(h:gidx l i=some x):aindexAddr Tryz.prog 119 (.sl (flat treeDeclL l) l.length o) (ai i)=some (.ip (treeDeclL x++flat treeDeclL (l.drop (i.toNat+1)))):=by
 have:=ix_ok codecTreeDecl (k:=.i64) Tryz.underlying119 info96 rfl h (o:=o)
 exact this
theorem ix177{l:List TokenToken}{i:Int}{o:Own}{x:TokenToken}(h:gidx l i=some x):aindexAddr Tryz.prog 177 (.sl (flat tokenTokenL l) l.length o) (ai i)=some (.ip (tokenTokenL x++flat tokenTokenL (l.drop (i.toNat+1)))):=by
 have:=ix_ok codecTokenToken (k:=.i64) Tryz.underlying177 info181 rfl h (o:=o)
 exact this
theorem ix23{l:List Ent}{i:Int}{o:Own}{x:Ent}(h:gidx l i=some x):aindexAddr Tryz.prog 23 (.sl (flat entL l) l.length o) (ai i)=some (.ip (entL x++flat entL (l.drop (i.toNat+1)))):=by
 have:=ix_ok codecE (k:=.i64) Tryz.underlying23 info83 rfl h (o:=o)
 exact this
theorem ix24{l:List Int}{i:Int}{o:Own}{x:Int}(h:gidx l i=some x):aindexAddr Tryz.prog 24 (.sl (flat intC l) l.length o) (ai i)=some (.ip (intC x++flat intC (l.drop (i.toNat+1)))):=by
 have:=ix_ok codecI (k:=.i64) Tryz.underlying24 info3 rfl h (o:=o)
 exact this
theorem info23:Tryz.prog.info? 23=some Tryz.t23:=by kernel_rfl
theorem ix324{l:List (List Ent)}{i:Int}{o:Own}{x:List Ent}(h:gidx l i=some x):aindexAddr Tryz.prog 324 (.sl (flat (slC entL) l) l.length o) (ai i)=some (.ip ((slC entL) x++flat (slC entL) (l.drop (i.toNat+1)))):=by
 have:=ix_ok (codSl codecE) (k:=.i64) Tryz.underlying324 info23 rfl h (o:=o)
 exact this
theorem info47:Tryz.prog.info? 47=some Tryz.t47:=by kernel_rfl
theorem ix37{l:List CorpusSample}{i:Int}{o:Own}{x:CorpusSample}(h:gidx l i=some x):aindexAddr Tryz.prog 37 (.sl (flat corpusSampleL l) l.length o) (ai i)=some (.ip (corpusSampleL x++flat corpusSampleL (l.drop (i.toNat+1)))):=by
 have:=ix_ok codecCorpusSample (k:=.i64) Tryz.underlying37 info47 rfl h (o:=o)
 exact this
theorem info50:Tryz.prog.info? 50=some Tryz.t50:=by kernel_rfl
theorem ix39{l:List CorpusRefusal}{i:Int}{o:Own}{x:CorpusRefusal}(h:gidx l i=some x):aindexAddr Tryz.prog 39 (.sl (flat corpusRefusalL l) l.length o) (ai i)=some (.ip (corpusRefusalL x++flat corpusRefusalL (l.drop (i.toNat+1)))):=by
 have:=ix_ok codecCorpusRefusal (k:=.i64) Tryz.underlying39 info50 rfl h (o:=o)
 exact this
theorem info48:Tryz.prog.info? 48=some Tryz.t48:=by kernel_rfl
theorem ix41{l:List A3ByteArray}{i:Int}{o:Own}{x:A3ByteArray}(h:gidx l i=some x):aindexAddr Tryz.prog 41 (.sl (flat a3ByteArrayL l) l.length o) (ai i)=some (.ip (a3ByteArrayL x++flat a3ByteArrayL (l.drop (i.toNat+1)))):=by
 have:=ix_ok codecA3ByteArray (k:=.i64) Tryz.underlying41 info48 rfl h (o:=o)
 exact this
theorem info51:Tryz.prog.info? 51=some Tryz.t51:=by kernel_rfl
theorem ix43{l:List A2ByteArray}{i:Int}{o:Own}{x:A2ByteArray}(h:gidx l i=some x):aindexAddr Tryz.prog 43 (.sl (flat a2ByteArrayL l) l.length o) (ai i)=some (.ip (a2ByteArrayL x++flat a2ByteArrayL (l.drop (i.toNat+1)))):=by
 have:=ix_ok codecA2ByteArray (k:=.i64) Tryz.underlying43 info51 rfl h (o:=o)
 exact this
theorem ix56{l:List ByteArray}{i:Int}{o:Own}{x:ByteArray}(h:gidx l i=some x):aindexAddr Tryz.prog 56 (.sl (flat strC l) l.length o) (ai i)=some (.ip (strC x++flat strC (l.drop (i.toNat+1)))):=by
 have:=ix_ok codecS (k:=.i64) Tryz.underlying56 info9 rfl h (o:=o)
 exact this
theorem ix78{l:List Tm}{i:Int}{o:Own}{x:Tm}(h:gidx l i=some x):aindexAddr Tryz.prog 78 (.sl (flat tmCells l) l.length o) (ai i)=some (.ip (tmL x++flat tmCells (l.drop (i.toNat+1)))):=by
 have:=ix_ok codecT (k:=.i64) Tryz.underlying78 info80 rfl h (o:=o)
 rw[tm_eq]at this
 exact this
theorem ix90{l:List TreeBind}{i:Int}{o:Own}{x:TreeBind}(h:gidx l i=some x):aindexAddr Tryz.prog 90 (.sl (flat treeBindL l) l.length o) (ai i)=some (.ip (treeBindL x++flat treeBindL (l.drop (i.toNat+1)))):=by
 have:=ix_ok codecTreeBind (k:=.i64) Tryz.underlying90 info366 rfl h (o:=o)
 exact this
theorem ixArr431{l:List Int}{i x:Int}(h:gidx l i=some x)(hl:l.length=9):aindex Tryz.prog 431 (.agg (flat intC l)) (ai i)=some (ai x):=ixArr_ok (k:=.i64) Tryz.underlying431 (q:=(false,1)) (by kernel_rfl) rfl hl h
theorem ixArr612{l:List Int}{i x:Int}(h:gidx l i=some x)(hl:l.length=11):aindex Tryz.prog 612 (.agg (flat intC l)) (ai i)=some (ai x):=ixArr_ok (k:=.i64) Tryz.underlying612 (q:=(false,1)) (by kernel_rfl) rfl hl h
theorem info434:Tryz.prog.info? 434=some Tryz.t434:=by kernel_rfl
theorem ixM327{b n k c z:Nat}{i:Int}(h:gchk n i=some k):aindexAddr Tryz.prog 327 (.ms b 0 n c z) (ai i)=some (.mp b (k*3)):=chk_ok Tryz.underlying327 info434 rfl h
theorem ixStr9{s:ByteArray}{i x:Int}(h:gbyte s i=some x):aindex Tryz.prog 9 (at' s) (ai i)=some (.val (.int .u8 x)):=ixStr_ok Tryz.underlying9 h
theorem ixZ23{l:List EntZ}{i:Int}{o:Own}{x:EntZ}(h:gidx l i=some x):aindexAddr Tryz.prog 23 (.sl (flat entZ l) l.length o) (ai i)=some (.ip (entZ x++flat entZ (l.drop (i.toNat+1)))):=by
 have:=ix_ok codecEZ (k:=.i64) Tryz.underlying23 info83 rfl h (o:=o)
 exact this
theorem lk231(m:List (ByteArray×Int))(k:ByteArray):Ob.ok Tryz.prog (.lk 231 (smap m) (at' k) false (ai (mget m k))):=lk_ok Tryz.underlying231 Tryz.underlying9 info3 rfl m k
theorem mkM327{n:Int}{l:List Con'}(h:gmk 72 (default:Con') n=some l):Ob.ok Tryz.prog (.mk (amakems Tryz.prog 327 (ai n) (ai n)) (flat conL l) l.length):=mk_ok Tryz.underlying327 info434 rfl rfl rfl (by decide) rfl (by decide) (by rfl) h
theorem mu231(m:List (ByteArray×Int))(k:ByteArray)(v:Int):Ob.ok Tryz.prog (.mu 231 (smap m) (at' k) (ai v) (smap (mset m k v))):=mu_ok Tryz.underlying231 Tryz.underlying9 m k v
theorem sl24{l r:List Int}{a b:Int}(h:gsl l a b=some r):aslice Tryz.prog 24 (.sl (flat intC l) l.length .no) (some (ai a)) (some (ai b)) none=some (.sl (flat intC r) r.length .no):=slice_ok codecI Tryz.underlying24 info3 rfl h
theorem slFrom78{l r:List Tm}{a:Int}(h:gsl l a l.length=some r):aslice Tryz.prog 78 (.sl (flat tmCells l) l.length .no) (some (ai a)) none none=some (.sl (flat tmCells r) r.length .no):=sliceFrom_ok codecT Tryz.underlying78 info80 rfl h
theorem slMTo23{b off n c:Nat}{y:Int}{r:Nat×Nat}(h:gcut c 0 y=some r):aslice Tryz.prog 23 (.ms b off n c 15) none (some (ai y)) none=some (.ms b off r.2 c 15):=slMTo_ok Tryz.underlying23 info83 rfl (by decide) h
theorem zrM23_3{n:Int}{l:List Ent}(hp:n>0)(h:gmk 192 (default:Ent) n=some l):Ob.ok Tryz.prog (.mk (azero Tryz.prog 23 3 (ai n)) (flat entL l) l.length):=zr_ok Tryz.underlying3 hp (mk_ok Tryz.underlying23 info83 rfl rfl rfl (by decide) rfl (by decide) (by rfl) h)
def e25(qq:Nat)(p0:ByteArray)(p1:Int):Option (ByteArray×Int×List Ent×Int×List Int×Int×Int×Int×Int):=
 some (p0,p1,[],0,[],0,0,0,0)
abbrev K25 (p0:ByteArray) (p1:Int) (r:ByteArray×Int×List Ent×Int×List Int×Int×Int×Int×Int) (C:Cf):Prop:=C 25 [] [at' p0,ai p1] (.mp 0 0) [.cells [at' r.1,ai r.2.1,.val (.int .u32 0),.val (.int .i32 0),.val (.int .u32 0),.val (.int .u32 0),slv entL r.2.2.1 .no,ai r.2.2.2.1,slv intC r.2.2.2.2.1 .no,ai r.2.2.2.2.2.1,ai r.2.2.2.2.2.2.1,ai r.2.2.2.2.2.2.2.1,ai r.2.2.2.2.2.2.2.2]] 0
theorem q25:Qf 25 Tryz.f25:=⟨Tryz.func25,by kernel_rfl⟩
theorem k25{p0 p1 r}(h:K25 p0 p1 r Ci):K25 p0 p1 r Ct:=⟨h,⟨tv,tv,tv⟩,forall_nil,(lz rfl),(forall_cons ⟨tv,tv,tv,tv,tv,tv,dE _,tv,dI _,tv,tv,tv,tv,tv⟩ forall_nil)⟩
theorem c25{qq p0 p1 r}(h:e25 qq p0 p1=some r):K25 p0 p1 r Ct:=by
 unfold e25 at h
 obtain rfl:=sj h
 exact k25 (tF q25 0 [0] (oD (dI ([]:List Int))<|oD (dE ([]:List Ent)) o0))
def e24vaaa(qq:Nat)(q0:ByteArray)(q1:Int)(q2:List Ent)(q3:Int)(q4:List Int)(q5 q6 q7 q8:Int):Option (Bool):=
 some false
abbrev K24vaaa (q0:ByteArray) (q1:Int) (q2:List Ent) (q3:Int) (q4:List Int) (q5 q6 q7 q8:Int) (r:Bool) (C:Cf):Prop:=C 24 [.cells [at' q0,ai q1,.val (.int .u32 0),.val (.int .i32 0),.val (.int .u32 0),.val (.int .u32 0),slv entL q2 .no,ai q3,slv intC q4 .no,ai q5,ai q6,ai q7,ai q8]] [.mp 0 2] (ab r) [.cells [at' q0,ai q1,.val (.int .u32 0),.val (.int .i32 0),.val (.int .u32 0),.val (.int .u32 0),slv entL q2 .no,ai q3,slv intC q4 .no,ai q5,ai q6,ai q7,ai q8]] 0
theorem q24vaaa:Qf 24 Tryz.f24:=⟨Tryz.func24,by kernel_rfl⟩
theorem k24vaaa{q0 q1 q2 q3 q4 q5 q6 q7 q8 r}(h:K24vaaa q0 q1 q2 q3 q4 q5 q6 q7 q8 r Ci):K24vaaa q0 q1 q2 q3 q4 q5 q6 q7 q8 r Ct:=⟨h,⟨(lz rfl),tv⟩,(forall_cons ⟨tv,tv,tv,tv,tv,tv,⟨tv,dE _⟩,tv,⟨tv,dI _⟩,tv,tv,tv,tv,tv⟩ forall_nil),tv,(forall_cons ⟨tv,tv,tv,tv,tv,tv,dE _,tv,dI _,tv,tv,tv,tv,tv⟩ forall_nil)⟩
theorem c24vaaa{qq q0 q1 q2 q3 q4 q5 q6 q7 q8 r}(h:e24vaaa qq q0 q1 q2 q3 q4 q5 q6 q7 q8=some r):K24vaaa q0 q1 q2 q3 q4 q5 q6 q7 q8 r Ct:=by
 unfold e24vaaa at h
 obtain rfl:=sj h
 exact k24vaaa (tF q24vaaa 2 [0] (oD (dI q4)<|oD (dE q2) o0))
def e304Lab(qq:Nat)(p0:Tm)(v1 v12:Int):Option (Int):=
 if decide (v12<(List.length p0.sub:Int))then
 none
 else
 some v1
def e304(qq:Nat)(p0:Tm)(p1:Int):Option (Int):=
 e304Lab qq p0 (w64 (p1+1)) 0
def g304LabE0(j:Nat->Value)(p0:Tm)(v1 v12:Int):=sp j 23 0 [(1,ai v1),(10,slv tmCells p0.sub .no),(11,ai (List.length p0.sub:Int)),(12,ai v12)]
def g304LabS0(p0:Tm)(v1 v12:Int):LSt:=⟨[],0,[],0,[]⟩
abbrev K304 (p0:Tm) (p1 r:Int) (C:Cf):Prop:=C 304 [] [tmA p0,ai p1] (ai r) [] 0
theorem q304:Qf 304 Tryz.f304:=⟨Tryz.func304,by kernel_rfl⟩
theorem k304{p0 p1 r}(h:K304 p0 p1 r Ci):K304 p0 p1 r Ct:=⟨h,⟨⟨tv,tv,⟨tv,dT _⟩,tv⟩,tv,tv⟩,forall_nil,tv,forall_nil⟩
theorem l304Lab(qq p0 v1 v12 r)(h:e304Lab qq p0 v1 v12=some r):(∀j,Dl Tryz.prog 0 (inn (inn (rgt (lft (rgt (rgt (bod Tryz.f304))))))) (g304LabE0 j p0 v1 v12) (g304LabS0 p0 v1 v12) (frameQ Tryz.prog 0 (FinQ Tryz.prog 0 Tryz.f304 (ai r) [] 0) [.blk 0,.seq (rgt (rgt (rgt (bod Tryz.f304))))])):=by
 unfold e304Lab at h
 obtain⟨h1,h⟩:=splF h
 obtain rfl:=sj h
 exact fun j=>lF 0 [] (oB 0 h1 o0)
theorem c304{qq p0 p1 r}(h:e304 qq p0 p1=some r):K304 p0 p1 r Ct:=by
 unfold e304 at h
 exact k304 (tH q304 3 [] [] [] [1,10,11,12] (oD (dT p0.sub) o0) (l304Lab qq _ _ _ _ h))
def e197(qq:Nat)(p0:Tm):Option (Int):=
 e304 qq p0 0>>=fun r1=>
 some r1
abbrev K197 (p0:Tm) (r:Int) (C:Cf):Prop:=C 197 [] [tmA p0] (ai r) [] 0
theorem q197:Qf 197 Tryz.f197:=⟨Tryz.func197,by kernel_rfl⟩
theorem k197{p0 r}(h:K197 p0 r Ci):K197 p0 r Ct:=⟨h,⟨⟨tv,tv,⟨tv,dT _⟩,tv⟩,tv⟩,forall_nil,tv,forall_nil⟩
theorem c197{qq p0 r}(h:e197 qq p0=some r):K197 p0 r Ct:=by
 unfold e197 at h
 obtain⟨r1,h2,h⟩:=obind h
 obtain rfl:=sj h
 exact k197 (tF q197 0 [] (oC 1 [] (c304 h2) o0))
def e198Lac(qq:Nat)(p0:Tm)(p1 v15 v5:Int):Option (Int):=
 if decide (v15<(List.length p0.sub:Int))then
 none
 else
 some v5
def e198(qq:Nat)(p0:Tm)(p1:Int):Option (Int):=
 if decide (p1>128)then
 none
 else
 e198Lac qq p0 p1 0 p1
def g198LacE0(j:Nat->Value)(p0:Tm)(p1 v15 v5:Int):=sp j 27 0 [(1,ai p1),(5,ai v5),(13,slv tmCells p0.sub .no),(14,ai (List.length p0.sub:Int)),(15,ai v15)]
def g198LacS0(p0:Tm)(p1 v15 v5:Int):LSt:=⟨[],0,[],0,[]⟩
abbrev K198 (p0:Tm) (p1 r:Int) (C:Cf):Prop:=C 198 [] [tmA p0,ai p1] (ai r) [] 0
theorem q198:Qf 198 Tryz.f198:=⟨Tryz.func198,by kernel_rfl⟩
theorem k198{p0 p1 r}(h:K198 p0 p1 r Ci):K198 p0 p1 r Ct:=⟨h,⟨⟨tv,tv,⟨tv,dT _⟩,tv⟩,tv,tv⟩,forall_nil,tv,forall_nil⟩
theorem l198Lac(qq p0 p1 v15 v5 r)(h:e198Lac qq p0 p1 v15 v5=some r):(∀j,Dl Tryz.prog 0 (inn (inn (rgt (lft (rgt (rgt (rgt (bod Tryz.f198)))))))) (g198LacE0 j p0 p1 v15 v5) (g198LacS0 p0 p1 v15 v5) (frameQ Tryz.prog 0 (FinQ Tryz.prog 0 Tryz.f198 (ai r) [] 0) [.blk 0,.seq (rgt (rgt (rgt (rgt (bod Tryz.f198)))))])):=by
 unfold e198Lac at h
 obtain⟨h2,h⟩:=splF h
 obtain rfl:=sj h
 exact fun j=>lF 0 [] (oB 0 h2 o0)
theorem c198{qq p0 p1 r}(h:e198 qq p0 p1=some r):K198 p0 p1 r Ct:=by
 unfold e198 at h
 obtain⟨h1,h⟩:=splF h
 exact k198 (tH q198 2 [] [] [] [1,5,13,14,15] (oD (dT p0.sub)<|oB 0 h1 o0) (l198Lac qq _ _ _ _ _ h))
def e119(qq:Nat)(p0:Tm):Option (Int):=
 e197 qq p0>>=fun r1=>
 if decide (r1>8192)then
 none
 else
 e198 qq p0 1>>=fun r4=>
 some r4
abbrev K119 (p0:Tm) (r:Int) (C:Cf):Prop:=C 119 [] [tmA p0] (ai r) [] 0
theorem q119:Qf 119 Tryz.f119:=⟨Tryz.func119,by kernel_rfl⟩
theorem k119{p0 r}(h:K119 p0 r Ci):K119 p0 r Ct:=⟨h,⟨⟨tv,tv,⟨tv,dT _⟩,tv⟩,tv⟩,forall_nil,tv,forall_nil⟩
theorem c119{qq p0 r}(h:e119 qq p0=some r):K119 p0 r Ct:=by
 unfold e119 at h
 obtain⟨r1,h2,h⟩:=obind h
 have k:=oC 1 [] (c197 h2) o0
 obtain⟨h3,h⟩:=splF h
 obtain⟨r4,h5,h⟩:=obind h
 obtain rfl:=sj h
 exact k119 (tF q119 0 [] (oC 1 [] (c198 h5)<|oB 0 h3 k))
def e199(qq:Nat)(p0:Tm):Option (Bool):=
 if decide (p0.k<1)then
 some false
 else
 if decide (p0.k>8)then
 none
 else
 gidx ([0,0,0,2,2,2,0,1,0]:List Int) p0.k>>=fun x3=>
 gidx ([0,1048576,7,0,0,0,1048576,1048576,1048576]:List Int) p0.k>>=fun x5=>
 if (List.length p0.sub:Int)==x3 then
 if decide (p0.n≥0)then
 if decide (p0.n≤x5)then
 if p0.k != 7 then
 some true
 else
 none
 else
 none
 else
 none
 else
 none
abbrev K199 (p0:Tm) (r:Bool) (C:Cf):Prop:=C 199 [] [tmA p0] (ab r) [] 0
theorem q199:Qf 199 Tryz.f199:=⟨Tryz.func199,by kernel_rfl⟩
theorem k199{p0 r}(h:K199 p0 r Ci):K199 p0 r Ct:=⟨h,⟨⟨tv,tv,⟨tv,dT _⟩,tv⟩,tv⟩,forall_nil,tv,forall_nil⟩
theorem c199{qq p0 r}(h:e199 qq p0=some r):K199 p0 r Ct:=by
 unfold e199 at h
 rcases spl h with⟨h1,h⟩|⟨h1,h⟩
 obtain rfl:=sj h
 exact k199 (tF q199 0 [] (oB 1 h1 o0))
 have k:=oB 1 h1 o0
 obtain⟨h2,h⟩:=splF h
 obtain⟨x3,h4,h⟩:=obind h
 obtain⟨x5,h6,h⟩:=obind h
 have k:=oA 1 (ixArr431 h6 rfl)<|oA 1 (ixArr431 h4 rfl)<|oB 1 h2 k
 obtain⟨h7,h⟩:=spT h
 have k:=oB 2 h7 k
 obtain⟨h8,h⟩:=spT h
 have k:=oB 1 h8 k
 obtain⟨h9,h⟩:=spT h
 have k:=oB 1 h9 k
 obtain⟨h10,h⟩:=spT h
 obtain rfl:=sj h
 exact k199 (tF q199 0 [] (oB 1 h10 k))
def e120Lad(qq:Nat)(p0:Tm)(v11:Int):Option (Bool):=
 if decide (v11<(List.length p0.sub:Int))then
 none
 else
 some true
def e120(qq:Nat)(p0:Tm):Option (Bool):=
 e199 qq p0>>=fun r1=>
 if r1 then
 e120Lad qq p0 0
 else
 some false
def g120LadE0(j:Nat->Value)(p0:Tm)(v11:Int):=sp j 19 0 [(9,slv tmCells p0.sub .no),(10,ai (List.length p0.sub:Int)),(11,ai v11)]
def g120LadS0(p0:Tm)(v11:Int):LSt:=⟨[],0,[],0,[]⟩
abbrev K120 (p0:Tm) (r:Bool) (C:Cf):Prop:=C 120 [] [tmA p0] (ab r) [] 0
theorem q120:Qf 120 Tryz.f120:=⟨Tryz.func120,by kernel_rfl⟩
theorem k120{p0 r}(h:K120 p0 r Ci):K120 p0 r Ct:=⟨h,⟨⟨tv,tv,⟨tv,dT _⟩,tv⟩,tv⟩,forall_nil,tv,forall_nil⟩
theorem l120Lad(qq p0 v11 r)(h:e120Lad qq p0 v11=some r):(∀j,Dl Tryz.prog 0 (inn (inn (rgt (lft (rgt (rgt (bod Tryz.f120))))))) (g120LadE0 j p0 v11) (g120LadS0 p0 v11) (frameQ Tryz.prog 0 (FinQ Tryz.prog 0 Tryz.f120 (ab r) [] 0) [.blk 0,.seq (rgt (rgt (rgt (bod Tryz.f120))))])):=by
 unfold e120Lad at h
 obtain⟨h4,h⟩:=splF h
 obtain rfl:=sj h
 exact fun j=>lF 0 [] (oB 0 h4 o0)
theorem c120{qq p0 r}(h:e120 qq p0=some r):K120 p0 r Ct:=by
 unfold e120 at h
 obtain⟨r1,h2,h⟩:=obind h
 rcases spl h with⟨h3,h⟩|⟨h3,h⟩
 exact k120 (tH q120 3 [] [] [] [9,10,11] (oD (dT p0.sub)<|oK 1 [] h3 (c199 h2) o0) (l120Lad qq _ _ _ h))
 obtain rfl:=sj h
 exact k120 (tF q120 1 [] (oK 1 [] h3 (c199 h2) o0))
def e73(qq:Nat)(p0:Tm):Option (Bool):=
 e119 qq p0>>=fun r1=>
 if decide (r1≤128)then
 e120 qq p0>>=fun r4=>
 some r4
 else
 none
abbrev K73 (p0:Tm) (r:Bool) (C:Cf):Prop:=C 73 [] [tmA p0] (ab r) [] 0
theorem q73:Qf 73 Tryz.f73:=⟨Tryz.func73,by kernel_rfl⟩
theorem k73{p0 r}(h:K73 p0 r Ci):K73 p0 r Ct:=⟨h,⟨⟨tv,tv,⟨tv,dT _⟩,tv⟩,tv⟩,forall_nil,tv,forall_nil⟩
theorem c73{qq p0 r}(h:e73 qq p0=some r):K73 p0 r Ct:=by
 unfold e73 at h
 obtain⟨r1,h2,h⟩:=obind h
 have k:=oC 1 [] (c119 h2) o0
 obtain⟨h3,h⟩:=spT h
 obtain⟨r4,h5,h⟩:=obind h
 obtain rfl:=sj h
 exact k73 (tF q73 0 [] (oC 1 [] (c120 h5)<|oB 0 h3 k))
def e74Lae(qq:Nat)(p0:Tm)(v14:Int)(vb1_2:List Tm):Option (Tm):=
 if decide (v14<(List.length p0.sub:Int))then
 none
 else
 some (Tm.mk p0.k p0.n vb1_2)
def e74(qq:Nat)(p0:Tm):Option (Tm):=
 e74Lae qq p0 0 []
def g74LaeE0(j:Nat->Value)(p0:Tm)(v14:Int)(vb1_2:List Tm):=sp j 27 0 [(2,.mp 0 0),(3,.mp 1 0),(12,slv tmCells p0.sub .no),(13,ai (List.length p0.sub:Int)),(14,ai v14)]
def g74LaeS0(p0:Tm)(v14:Int)(vb1_2:List Tm):LSt:=⟨[(0,.cells [ai 0,ai 0,slv tmCells ([]:List Tm) .nl]),(1,.cells [ai p0.k,ai p0.n,slv tmCells vb1_2 (.st 0 3)])],2,[0],1,[]⟩
abbrev K74 (p0 r:Tm) (C:Cf):Prop:=C 74 [] [tmA p0] (tmA r) [] 0
theorem q74:Qf 74 Tryz.f74:=⟨Tryz.func74,by kernel_rfl⟩
theorem k74{p0 r}(h:K74 p0 r Ci):K74 p0 r Ct:=⟨h,⟨⟨tv,tv,⟨tv,dT _⟩,tv⟩,tv⟩,forall_nil,⟨tv,tv,dT _,tv⟩,forall_nil⟩
theorem l74Lae(qq p0 v14 vb1_2 r)(h:e74Lae qq p0 v14 vb1_2=some r):(∀j,Dl Tryz.prog 0 (inn (inn (rgt (lft (rgt (rgt (bod Tryz.f74))))))) (g74LaeE0 j p0 v14 vb1_2) (g74LaeS0 p0 v14 vb1_2) (frameQ Tryz.prog 0 (FinQ Tryz.prog 0 Tryz.f74 (tmA r) [] 0) [.blk 0,.seq (rgt (rgt (rgt (bod Tryz.f74))))])):=by
 unfold e74Lae at h
 obtain⟨h1,h⟩:=splF h
 obtain rfl:=sj h
 exact fun j=>lF 2 [] (oD (dT vb1_2)<|oB 0 h1 o0)
theorem c74{qq p0 r}(h:e74 qq p0=some r):K74 p0 r Ct:=by
 unfold e74 at h
 exact k74 (tH q74 5 [(some 2,2,3)] [1,2] [0] [2,3,12,13,14] (oD (dT p0.sub)<|oD (dT ([]:List Tm))<|oD (dT ([]:List Tm)) o0) (l74Lae qq _ _ _ _ h))
def e42(qq:Nat)(p0:Tm):Option (Tm):=
 e73 qq p0>>=fun r1=>
 if r1 then
 e74 qq p0>>=fun r4=>
 some r4
 else
 some (Tm.mk 0 0 [])
abbrev K42 (p0 r:Tm) (C:Cf):Prop:=C 42 [] [tmA p0] (tmA r) [] 0
theorem q42:Qf 42 Tryz.f42:=⟨Tryz.func42,by kernel_rfl⟩
theorem k42{p0 r}(h:K42 p0 r Ci):K42 p0 r Ct:=⟨h,⟨⟨tv,tv,⟨tv,dT _⟩,tv⟩,tv⟩,forall_nil,⟨tv,tv,dT _,tv⟩,forall_nil⟩
theorem c42{qq p0 r}(h:e42 qq p0=some r):K42 p0 r Ct:=by
 unfold e42 at h
 obtain⟨r1,h2,h⟩:=obind h
 rcases spl h with⟨h3,h⟩|⟨h3,h⟩
 obtain⟨r4,h5,h⟩:=obind h
 obtain rfl:=sj h
 exact k42 (tF q42 1 [] (oD (dT r4.sub)<|oC 2 [] (c74 h5)<|oK 1 [] h3 (c73 h2) o0))
 obtain rfl:=sj h
 exact k42 (tF q42 2 [] (oD (dT ([]:List Tm))<|oK 1 [] h3 (c73 h2) o0))
def e43v0(qq:Nat)(p0:List Int):Option (List Int):=
 some []
abbrev K43v0 (p0 r:List Int) (C:Cf):Prop:=C 43 [] [slv intC p0 .nl] (.sl (flat intC r) (List.length r) .no) [] 0
theorem q43v0:Qf 43 Tryz.f43:=⟨Tryz.func43,by kernel_rfl⟩
theorem k43v0{p0 r}(h:K43v0 p0 r Ci):K43v0 p0 r Ct:=⟨h,⟨⟨tv,dI _⟩,tv⟩,forall_nil,dI _,forall_nil⟩
theorem c43v0{qq p0 r}(h:e43v0 qq p0=some r):K43v0 p0 r Ct:=by
 unfold e43v0 at h
 obtain rfl:=sj h
 exact k43v0 (tF q43v0 1 [] (oD (dI ([]:List Int)) o0))
def e43v1(qq:Nat)(p0:List Int):Option (List Int):=
 gapp 8 ([]:List Int) p0>>=fun l1=>
 some l1
abbrev K43v1 (p0 r:List Int) (C:Cf):Prop:=C 43 [] [slv intC p0 .nn] (.sl (flat intC r) (List.length r) .no) [] 0
theorem q43v1:Qf 43 Tryz.f43:=⟨Tryz.func43,by kernel_rfl⟩
theorem k43v1{p0 r}(h:K43v1 p0 r Ci):K43v1 p0 r Ct:=⟨h,⟨⟨tv,dI _⟩,tv⟩,forall_nil,dI _,forall_nil⟩
theorem c43v1{qq p0 r}(h:e43v1 qq p0=some r):K43v1 p0 r Ct:=by
 unfold e43v1 at h
 obtain⟨l1,h2,h⟩:=obind h
 by_cases h3:List.length p0=0
 obtain rfl:=sj h
 exact k43v1 (tF q43v1 0 [] (oD (dI l1)<|oP 2 (apN24 h2 h3) o0))
 obtain rfl:=sj h
 exact k43v1 (tF q43v1 0 [] (oD (dI l1)<|oP 2 (apS24 h2 h3) o0))
def e43vr0(qq:Nat)(p0:List Int):Option (Unit):=
 some ()
abbrev K43vr0 (p0:List Int) (C:Cf):Prop:=C 43 [] [slv intC p0 .nl] (slv intC ([]:List Int) .full) [] 0
theorem q43vr0:Qf 43 Tryz.f43:=⟨Tryz.func43,by kernel_rfl⟩
theorem k43vr0{p0}(h:K43vr0 p0 Ci):K43vr0 p0 Ct:=⟨h,⟨⟨tv,dI _⟩,tv⟩,forall_nil,dI _,forall_nil⟩
theorem c43vr0{qq p0 r}(h:e43vr0 qq p0=some r):K43vr0 p0 Ct:=by
 unfold e43vr0 at h
 obtain rfl:=sj h
 exact k43vr0 (tG q43vr0 1 [] [] [] true (oD (dI ([]:List Int)) o0))
def e43vr1(qq:Nat)(p0:List Int):Option ((Unit) ⊕ (List Int)):=
 if decide (List.length p0=0)then
 some (Sum.inl ())
 else
 gapp 8 ([]:List Int) p0>>=fun l2=>
 some (Sum.inr l2)
abbrev K43vr1s0 (p0:List Int) (C:Cf):Prop:=C 43 [] [slv intC p0 .nn] (slv intC ([]:List Int) .full) [] 0
abbrev K43vr1s1 (p0 r:List Int) (C:Cf):Prop:=C 43 [] [slv intC p0 .nn] (.ms 0 0 (List.length r) (List.length r) 1) [.row (flat intC r)] 0
theorem q43vr1:Qf 43 Tryz.f43:=⟨Tryz.func43,by kernel_rfl⟩
theorem k43vr1s0{p0}(h:K43vr1s0 p0 Ci):K43vr1s0 p0 Ct:=⟨h,⟨⟨tv,dI _⟩,tv⟩,forall_nil,dI _,forall_nil⟩
theorem k43vr1s1{p0 r}(h:K43vr1s1 p0 r Ci):K43vr1s1 p0 r Ct:=⟨h,⟨⟨tv,dI _⟩,tv⟩,forall_nil,(lz rfl),(forall_cons (dI _) forall_nil)⟩
theorem c43vr1{qq p0 r}(h:e43vr1 qq p0=some r):(match (generalizing:=false) r with|Sum.inl x=>K43vr1s0 p0 Ct|Sum.inr x=>K43vr1s1 p0 x Ct):=by
 unfold e43vr1 at h
 rcases spl h with⟨h1,h⟩|⟨h1,h⟩
 obtain rfl:=sj h
 exact k43vr1s0 (tG q43vr1 0 [] [] [] true (oD (dI ([]:List Int))<|oQ 2 (apQ24 (of_decide_eq_true h1)) o0))
 obtain⟨l2,h3,h⟩:=obind h
 obtain rfl:=sj h
 exact k43vr1s1 (tF q43vr1 0 [0] (oD (dI l2)<|oM 2 (apW24 h3 (of_decide_eq_false h1)) o0))
def e43(_qq:Nat)(p0:List Int):Option (List Int):=gapp 8 [] p0
theorem c43{qq:Nat}{p0:List Int}{r:List Int}(h:e43 qq p0=some r):CT Tryz.prog 43 [] [.sl (flat intC p0) (List.length p0) .no] (.sl (flat intC r) (List.length r) .no) [] 0:=by
 have hr:r=p0:=by have:=(gapp_spec h).2;simpa using this
 have h1:e43v1 qq p0=some r:=by unfold e43v1;rw[show gapp 8 ([]:List Int) p0=some r from h];rfl
 have k1:=c43v1 h1
 refine⟨CTri.nilcase (fun hn=>?_) k1.tri,⟨⟨trivial,dI _⟩,trivial⟩,(fun _ h=>nomatch h),dI _,(fun _ h=>nomatch h)⟩
 have hp:p0=[]:=flat_nil codecI (by decide) hn
 subst hr
 subst hp
 exact(c43v0 (qq:=qq) rfl).tri
def e43vr(qq:Nat)(p0:List Int):Option (Unit ⊕ List Int):=if decide (List.length p0=0)=true then some (.inl ())else(gapp 8 [] p0)>>=fun r=>some (.inr r)
theorem c43vr{qq:Nat}{p0:List Int}{r:Unit ⊕ List Int}(h:e43vr qq p0=some r):(match (generalizing:=false) r with | .inl _=>CT Tryz.prog 43 [] [.sl (flat intC p0) (List.length p0) .no] (.sl (flat intC ([]:List Int)) (List.length ([]:List Int)) .full) [] 0 | .inr x=>CT Tryz.prog 43 [] [.sl (flat intC p0) (List.length p0) .no] (.ms 0 0 (List.length x) (List.length x) 1) [.row (flat intC x)] 0):=by
 unfold e43vr at h
 rcases spl h with⟨h1,h⟩|⟨h1,h⟩
 ·obtain rfl:=sj h
  have hp:p0=[]:=List.length_eq_zero_iff.1 (of_decide_eq_true h1)
  subst hp
  have k0:=c43vr0 (qq:=qq) (p0:=[]) (r:=()) rfl
  have k1:=c43vr1 (qq:=qq) (p0:=[]) (r:=.inl ()) rfl
  exact⟨CTri.nilcase (fun _=>k0.tri) k1.tri,⟨⟨trivial,dI _⟩,trivial⟩,(fun _ h=>nomatch h),dI _,(fun _ h=>nomatch h)⟩
 ·obtain⟨x,h2,h⟩:=obind h
  obtain rfl:=sj h
  have k1:=c43vr1 (qq:=qq) (p0:=p0) (r:=.inr x) (by unfold e43vr1;rw[if_neg (by rw[h1];decide),h2];rfl)
  refine⟨CTri.nilcase (fun hn=>?_) k1.tri,⟨⟨trivial,dI _⟩,trivial⟩,(fun _ h=>nomatch h),(show 0<1 by decide),forall_cons (dI _) forall_nil⟩
  have hp:p0=[]:=flat_nil codecI (by decide) hn
  subst hp
  cases h1
def e43vz(_qq:Nat)(p0:List Int):Option (List Int):=gapp 8 [] p0
theorem c43vz{qq:Nat}{p0:List Int}{r:List Int}(h:e43vz qq p0=some r):CT Tryz.prog 43 [] [.sl (flat intC p0) (List.length p0) .no] (.sl (flat intC r) (List.length r) .z) [] 0:=by
 have hr:r=p0:=by have:=(gapp_spec h).2;simpa using this
 subst hr
 cases r with
 |nil=>exact CT.zfull (c43vr (qq:=qq) (p0:=[]) (r:=.inl ()) rfl)
 |cons x l=>exact CT.zno (by simp) (dI _) (c43 (qq:=qq) h)
def e21Laf:Nat->(List Ent)->(List Ent)->Int->Option (List Ent)
 |0,_,_,_=>none
 |qq+1,p0,v3,v8=>
 if decide (v8<(List.length p0:Int))then
 gidx p0 v8>>=fun x2=>
 e42 qq x2.type>>=fun r4=>
 e42 qq x2.body>>=fun r6=>
 e43 qq x2.cons>>=fun r8=>
 e43 qq x2.fields>>=fun r10=>
 gapp 192 v3 [(Ent.mk x2.kind x2.name r4 r6 x2.fam x2.place x2.pars x2.inds x2.level r8 r10)]>>=fun l12=>
 e21Laf qq p0 l12 (w64 (v8+1))
 else
 some v3
def e21(qq:Nat)(p0:List Ent):Option (List Ent):=
 e21Laf qq p0 [] 0
def g21LafE0(j:Nat->Value)(p0 v3:List Ent)(v8:Int):=sp j 34 0 [(3,slv entL v3 (.st 0 15)),(6,slv entL p0 .no),(7,ai (List.length p0:Int)),(8,ai v8)]
def g21LafS0(p0 v3:List Ent)(v8:Int):LSt:=⟨[],0,[0],1,[]⟩
abbrev K21 (p0 r:List Ent) (C:Cf):Prop:=C 21 [] [slv entL p0 .no] (.sl (flat entL r) (List.length r) .no) [] 0
theorem q21:Qf 21 Tryz.f21:=⟨Tryz.func21,by kernel_rfl⟩
theorem k21{p0 r}(h:K21 p0 r Ci):K21 p0 r Ct:=⟨h,⟨⟨tv,dE _⟩,tv⟩,forall_nil,dE _,forall_nil⟩
theorem l21Laf:∀qq:Nat,(∀p0 v3 v8 r,e21Laf qq p0 v3 v8=some r->(∀j,Dl Tryz.prog 0 (inn (inn (rgt (lft (rgt (rgt (bod Tryz.f21))))))) (g21LafE0 j p0 v3 v8) (g21LafS0 p0 v3 v8) (frameQ Tryz.prog 0 (FinQ Tryz.prog 0 Tryz.f21 (.sl (flat entL r) (List.length r) .no) [] 0) [.blk 0,.seq (rgt (rgt (rgt (bod Tryz.f21))))]))):=by
 intro qq
 induction qq with
 |zero=>
  exact fun _ _ _ _ h=>nn h
 |succ qq ih=>
  intro p0 v3 v8 r h
  rw[e21Laf]at h
  rcases spl h with⟨h1,h⟩|⟨h1,h⟩
  obtain⟨x2,h3,h⟩:=obind h
  obtain⟨r4,h5,h⟩:=obind h
  obtain⟨r6,h7,h⟩:=obind h
  obtain⟨r8,h9,h⟩:=obind h
  obtain⟨r10,h11,h⟩:=obind h
  obtain⟨l12,h13,h⟩:=obind h
  exact fun j=>lH 1 [] [] [1] [3,6,7,8] (oD (dE p0)<|oD (dE l12)<|oP 4 (apS23 h13 (by simp))<|oC 0 [] (c43 h11)<|oCl 0<|oC 3 [] (c43 h9)<|oC 1 [] (c42 h7)<|oC 3 [] (c42 h5)<|oA 0 (ix23 (o:=.no) h3)<|oB 0 h1 o0) (ih _ _ _ _ h)
  obtain rfl:=sj h
  exact fun j=>lF 0 [] (oD (dE v3)<|oB 0 h1 o0)
theorem c21{qq p0 r}(h:e21 qq p0=some r):K21 p0 r Ct:=by
 unfold e21 at h
 exact k21 (tH q21 1 [(none,3,15)] [] [0] [3,6,7,8] (oD (dE p0)<|oD (dE ([]:List Ent)) o0) (l21Laf _ _ _ _ _ h))
def e82Lag:Nat->(List ByteArray)->Int->(List (ByteArray×Int))->Option (Bool)
 |0,_,_,_=>none
 |qq+1,p0,v9,vb0_0=>
 if decide (v9<(List.length p0:Int))then
 gidx p0 v9>>=fun x2=>
 if decide ((mget vb0_0 x2)>0)then
 none
 else
 e82Lag qq p0 (w64 (v9+1)) (mset vb0_0 x2 (w64 ((mget vb0_0 x2)+1)))
 else
 some true
def e82(qq:Nat)(p0:List ByteArray):Option (Bool):=
 e82Lag qq p0 0 ([]:List (ByteArray×Int))
def g82LagE0(j:Nat->Value)(p0:List ByteArray)(v9:Int)(vb0_0:List (ByteArray×Int)):=sp j 22 0 [(3,.obj 0),(7,slv strC p0 .no),(8,ai (List.length p0:Int)),(9,ai v9)]
def g82LagS0(p0:List ByteArray)(v9:Int)(vb0_0:List (ByteArray×Int)):LSt:=⟨[(0,smap vb0_0)],1,[],0,[]⟩
abbrev K82 (p0:List ByteArray) (r:Bool) (C:Cf):Prop:=C 82 [] [slv strC p0 .no] (ab r) [] 0
theorem q82:Qf 82 Tryz.f82:=⟨Tryz.func82,by kernel_rfl⟩
theorem k82{p0 r}(h:K82 p0 r Ci):K82 p0 r Ct:=⟨h,⟨⟨tv,dS _⟩,tv⟩,forall_nil,tv,forall_nil⟩
theorem l82Lag:∀qq:Nat,(∀p0 v9 vb0_0 r,e82Lag qq p0 v9 vb0_0=some r->(∀j,Dl Tryz.prog 0 (inn (inn (rgt (lft (rgt (rgt (bod Tryz.f82))))))) (g82LagE0 j p0 v9 vb0_0) (g82LagS0 p0 v9 vb0_0) (frameQ Tryz.prog 0 (FinQ Tryz.prog 0 Tryz.f82 (ab r) [] 0) [.blk 0,.seq (rgt (rgt (rgt (bod Tryz.f82))))]))):=by
 intro qq
 induction qq with
 |zero=>
  exact fun _ _ _ _ h=>nn h
 |succ qq ih=>
  intro p0 v9 vb0_0 r h
  rw[e82Lag]at h
  rcases spl h with⟨h1,h⟩|⟨h1,h⟩
  obtain⟨x2,h3,h⟩:=obind h
  have k:=oL 1 (lk231 vb0_0 x2)<|oA 0 (ix56 (o:=.no) h3)<|oB 0 h1 o0
  obtain⟨h4,h⟩:=splF h
  exact fun j=>lH 1 [] [0] [] [3,7,8,9] (oD (dS p0)<|oU 1 (mu231 vb0_0 x2 (w64 ((mget vb0_0 x2)+1)))<|oL 0 (lk231 vb0_0 x2)<|oB 0 h4 k) (ih _ _ _ _ h)
  obtain rfl:=sj h
  exact fun j=>lF 0 [] (oB 0 h1 o0)
theorem c82{qq p0 r}(h:e82 qq p0=some r):K82 p0 r Ct:=by
 unfold e82 at h
 exact k82 (tH q82 1 [] [0] [] [3,7,8,9] (oD (dS p0) o0) (l82Lag _ _ _ _ _ h))
def e83Lah:Nat->(List Ent)->(List ByteArray)->Int->Option (List ByteArray)
 |0,_,_,_=>none
 |qq+1,p0,v3,v8=>
 if decide (v8<(List.length p0:Int))then
 gidx p0 v8>>=fun x2=>
 gapp 16 v3 [x2.name]>>=fun l4=>
 e83Lah qq p0 l4 (w64 (v8+1))
 else
 some v3
def e83(qq:Nat)(p0:List Ent):Option (List ByteArray):=
 e83Lah qq p0 [] 0
def g83LahE0(j:Nat->Value)(p0:List Ent)(v3:List ByteArray)(v8:Int):=sp j 19 0 [(3,slv strC v3 (.st 0 1)),(6,slv entL p0 .no),(7,ai (List.length p0:Int)),(8,ai v8)]
def g83LahS0(p0:List Ent)(v3:List ByteArray)(v8:Int):LSt:=⟨[],0,[0],1,[]⟩
abbrev K83 (p0:List Ent) (r:List ByteArray) (C:Cf):Prop:=C 83 [] [slv entL p0 .no] (slv strC r (.st 0 1)) [] 1
theorem q83:Qf 83 Tryz.f83:=⟨Tryz.func83,by kernel_rfl⟩
theorem k83{p0 r}(h:K83 p0 r Ci):K83 p0 r Ct:=⟨h,⟨⟨tv,dE _⟩,tv⟩,forall_nil,dS _,forall_nil⟩
theorem l83Lah:∀qq:Nat,(∀p0 v3 v8 r,e83Lah qq p0 v3 v8=some r->(∀j,Dl Tryz.prog 0 (inn (inn (rgt (lft (rgt (rgt (bod Tryz.f83))))))) (g83LahE0 j p0 v3 v8) (g83LahS0 p0 v3 v8) (frameQ Tryz.prog 0 (FinQ Tryz.prog 0 Tryz.f83 (slv strC r (.st 0 1)) [] 1) [.blk 0,.seq (rgt (rgt (rgt (bod Tryz.f83))))]))):=by
 intro qq
 induction qq with
 |zero=>
  exact fun _ _ _ _ h=>nn h
 |succ qq ih=>
  intro p0 v3 v8 r h
  rw[e83Lah]at h
  rcases spl h with⟨h1,h⟩|⟨h1,h⟩
  obtain⟨x2,h3,h⟩:=obind h
  obtain⟨l4,h5,h⟩:=obind h
  exact fun j=>lH 1 [] [] [1] [3,6,7,8] (oD (dE p0)<|oD (dS l4)<|oP 4 (apS56 h5 (by simp))<|oA 0 (ix23 (o:=.no) h3)<|oB 0 h1 o0) (ih _ _ _ _ h)
  obtain rfl:=sj h
  exact fun j=>lG 0 [] [] [0] true (oD (dS v3)<|oB 0 h1 o0)
theorem c83{qq p0 r}(h:e83 qq p0=some r):K83 p0 r Ct:=by
 unfold e83 at h
 exact k83 (tH q83 1 [(none,3,1)] [] [0] [3,6,7,8] (oD (dE p0)<|oD (dS ([]:List ByteArray)) o0) (l83Lah _ _ _ _ _ h))
def e335(qq:Nat)(p0:Int):Option (Bool):=
 if decide (p0≥0)then
 if decide (p0≤1114111)then
 if decide (p0<55296)then
 some true
 else
 none
 else
 none
 else
 none
abbrev K335 (p0:Int) (r:Bool) (C:Cf):Prop:=C 335 [] [ai p0] (ab r) [] 0
theorem q335:Qf 335 Tryz.f335:=⟨Tryz.func335,by kernel_rfl⟩
theorem k335{p0 r}(h:K335 p0 r Ci):K335 p0 r Ct:=⟨h,⟨tv,tv⟩,forall_nil,tv,forall_nil⟩
theorem c335{qq p0 r}(h:e335 qq p0=some r):K335 p0 r Ct:=by
 unfold e335 at h
 obtain⟨h1,h⟩:=spT h
 have k:=oB 0 h1 o0
 obtain⟨h2,h⟩:=spT h
 have k:=oB 0 h2 k
 obtain⟨h3,h⟩:=spT h
 obtain rfl:=sj h
 exact k335 (tF q335 0 [] (oB 0 h3 k))
def e435(qq:Nat)(p0:U8):Option (Int×Int):=
 if decide (p0<128)then
 some (1,(w64 (p0)))
 else
 none
abbrev K435 (p0:U8) (r:Int×Int) (C:Cf):Prop:=C 435 [] [.val (.int .u8 p0)] (.tup [ai r.1,ai r.2]) [] 0
theorem q435:Qf 435 Tryz.f435:=⟨Tryz.func435,by kernel_rfl⟩
theorem k435{p0 r}(h:K435 p0 r Ci):K435 p0 r Ct:=⟨h,⟨tv,tv⟩,forall_nil,⟨tv,tv,tv⟩,forall_nil⟩
theorem c435{qq p0 r}(h:e435 qq p0=some r):K435 p0 r Ct:=by
 unfold e435 at h
 obtain⟨h1,h⟩:=spT h
 obtain rfl:=sj h
 exact k435 (tF q435 1 [] (oB 0 h1 o0))
def e436(qq:Nat)(p0:Int):Option (Int):=
 if decide (p0≥65536)then
 none
 else
 if decide (p0≥2048)then
 none
 else
 if decide (p0≥128)then
 none
 else
 some 1
abbrev K436 (p0 r:Int) (C:Cf):Prop:=C 436 [] [ai p0] (ai r) [] 0
theorem q436:Qf 436 Tryz.f436:=⟨Tryz.func436,by kernel_rfl⟩
theorem k436{p0 r}(h:K436 p0 r Ci):K436 p0 r Ct:=⟨h,⟨tv,tv⟩,forall_nil,tv,forall_nil⟩
theorem c436{qq p0 r}(h:e436 qq p0=some r):K436 p0 r Ct:=by
 unfold e436 at h
 obtain⟨h1,h⟩:=splF h
 have k:=oB 0 h1 o0
 obtain⟨h2,h⟩:=splF h
 have k:=oB 0 h2 k
 obtain⟨h3,h⟩:=splF h
 obtain rfl:=sj h
 exact k436 (tF q436 0 [] (oB 0 h3 k))
def e333Lai(qq:Nat)(p0:ByteArray)(p1:Int)(r5:Int×Int)(v8 v9:Int):Option (Int×Int×Int):=
 if decide (v9<r5.1)then
 none
 else
 e335 qq v8>>=fun r13=>
 if r13 then
 e436 qq v8>>=fun r16=>
 if r16 != r5.1 then
 none
 else
 some (v8,r5.1,0)
 else
 none
def e333(qq:Nat)(p0:ByteArray)(p1:Int):Option (Int×Int×Int):=
 if decide (p1<0)then
 none
 else
 if decide (p1≥(p0.size:Int))then
 none
 else
 gbyte p0 p1>>=fun x3=>
 e435 qq x3>>=fun r5=>
 if r5.1==0 then
 none
 else
 if decide (r5.1>(w64 ((p0.size:Int)-p1)))then
 none
 else
 e333Lai qq p0 p1 r5 r5.2 1
def g333LaiE0(j:Nat->Value)(p0:ByteArray)(p1:Int)(r5:Int×Int)(v8 v9:Int):=sp j 66 0 [(0,at' p0),(1,ai p1),(7,ai r5.1),(8,ai v8),(9,ai v9)]
def g333LaiS0(p0:ByteArray)(p1:Int)(r5:Int×Int)(v8 v9:Int):LSt:=⟨[],0,[],0,[]⟩
abbrev K333 (p0:ByteArray) (p1:Int) (r:Int×Int×Int) (C:Cf):Prop:=C 333 [] [at' p0,ai p1] (.tup [ai r.1,ai r.2.1,ai r.2.2]) [] 0
theorem q333:Qf 333 Tryz.f333:=⟨Tryz.func333,by kernel_rfl⟩
theorem k333{p0 p1 r}(h:K333 p0 p1 r Ci):K333 p0 p1 r Ct:=⟨h,⟨tv,tv,tv⟩,forall_nil,⟨tv,tv,tv,tv⟩,forall_nil⟩
theorem l333Lai(qq p0 p1 r5 v8 v9 r)(h:e333Lai qq p0 p1 r5 v8 v9=some r):(∀j,Dl Tryz.prog 0 (inn (inn (rgt (lft (rgt (rgt (rgt (rgt (bod Tryz.f333))))))))) (g333LaiE0 j p0 p1 r5 v8 v9) (g333LaiS0 p0 p1 r5 v8 v9) (frameQ Tryz.prog 0 (FinQ Tryz.prog 0 Tryz.f333 (.tup [ai r.1,ai r.2.1,ai r.2.2]) [] 0) [.blk 0,.seq (rgt (rgt (rgt (rgt (rgt (bod Tryz.f333))))))])):=by
 unfold e333Lai at h
 obtain⟨h9,h⟩:=splF h
 obtain⟨r13,h14,h⟩:=obind h
 have k:=oB 0 h9 o0
 obtain⟨h15,h⟩:=spT h
 obtain⟨r16,h17,h⟩:=obind h
 have k:=oC 1 [] (c436 h17)<|oK 0 [] h15 (c335 h14) k
 obtain⟨h18,h⟩:=splF h
 obtain rfl:=sj h
 exact fun j=>lF 0 [] (oB 0 h18 k)
theorem c333{qq p0 p1 r}(h:e333 qq p0 p1=some r):K333 p0 p1 r Ct:=by
 unfold e333 at h
 obtain⟨h1,h⟩:=splF h
 have k:=oB 0 h1 o0
 obtain⟨h2,h⟩:=splF h
 obtain⟨x3,h4,h⟩:=obind h
 obtain⟨r5,h6,h⟩:=obind h
 have k:=oC 0 [] (c435 h6)<|oA 0 (ixStr9 h4)<|oB 1 h2 k
 obtain⟨h7,h⟩:=splF h
 have k:=oB 2 h7 k
 obtain⟨h8,h⟩:=splF h
 exact k333 (tH q333 0 [] [] [] [0,1,7,8,9] (oB 2 h8 k) (l333Lai qq _ _ _ _ _ _ h))
def e224Laj:Nat->ByteArray->(List Int)->Int->Option (List Int×Int×Int)
 |0,_,_,_=>none
 |qq+1,p0,v5,v6=>
 if decide (v6<(p0.size:Int))then
 e333 qq p0 v6>>=fun r3=>
 if r3.2.2 != 0 then
 none
 else
 gapp 8 v5 [r3.1]>>=fun l6=>
 e224Laj qq p0 l6 (w64 (v6+r3.2.1))
 else
 some (v5,(p0.size:Int),0)
def e224(qq:Nat)(p0:ByteArray):Option (List Int×Int×Int):=
 if decide ((p0.size:Int)>65535)then
 none
 else
 e224Laj qq p0 [] 0
def g224LajE0(j:Nat->Value)(p0:ByteArray)(v5:List Int)(v6:Int):=sp j 38 0 [(0,at' p0),(5,slv intC v5 (.st 0 1)),(6,ai v6)]
def g224LajS0(p0:ByteArray)(v5:List Int)(v6:Int):LSt:=⟨[],0,[0],1,[]⟩
abbrev K224 (p0:ByteArray) (r:List Int×Int×Int) (C:Cf):Prop:=C 224 [] [at' p0] (.tup [.sl (flat intC r.1) (List.length r.1) .no,ai r.2.1,ai r.2.2]) [] 0
theorem q224:Qf 224 Tryz.f224:=⟨Tryz.func224,by kernel_rfl⟩
theorem k224{p0 r}(h:K224 p0 r Ci):K224 p0 r Ct:=⟨h,⟨tv,tv⟩,forall_nil,⟨dI _,tv,tv,tv⟩,forall_nil⟩
theorem l224Laj:∀qq:Nat,(∀p0 v5 v6 r,e224Laj qq p0 v5 v6=some r->(∀j,Dl Tryz.prog 0 (inn (inn (rgt (lft (rgt (rgt (rgt (bod Tryz.f224)))))))) (g224LajE0 j p0 v5 v6) (g224LajS0 p0 v5 v6) (frameQ Tryz.prog 0 (FinQ Tryz.prog 0 Tryz.f224 (.tup [.sl (flat intC r.1) (List.length r.1) .no,ai r.2.1,ai r.2.2]) [] 0) [.blk 0,.seq (rgt (rgt (rgt (rgt (bod Tryz.f224)))))]))):=by
 intro qq
 induction qq with
 |zero=>
  exact fun _ _ _ _ h=>nn h
 |succ qq ih=>
  intro p0 v5 v6 r h
  rw[e224Laj]at h
  rcases spl h with⟨h2,h⟩|⟨h2,h⟩
  obtain⟨r3,h4,h⟩:=obind h
  have k:=oC 0 [] (c333 h4)<|oB 1 h2 o0
  obtain⟨h5,h⟩:=splF h
  obtain⟨l6,h7,h⟩:=obind h
  exact fun j=>lH 1 [] [] [1] [0,5,6] (oD (dI l6)<|oP 1 (apS24 h7 (by simp))<|oB 3 h5 k) (ih _ _ _ _ h)
  obtain rfl:=sj h
  exact fun j=>lF 1 [] (oD (dI v5)<|oB 1 h2 o0)
theorem c224{qq p0 r}(h:e224 qq p0=some r):K224 p0 r Ct:=by
 unfold e224 at h
 obtain⟨h1,h⟩:=splF h
 exact k224 (tH q224 0 [(none,5,1)] [] [0] [0,5,6] (oD (dI ([]:List Int))<|oB 1 h1 o0) (l224Laj _ _ _ _ _ h))
def e225(qq:Nat)(p0:ByteArray):Option (Bool):=
 if p0.toList==(⟨#[100,97,116,97]⟩:ByteArray).toList then
 some true
 else
 if p0.toList==(⟨#[114,101,99,111,114,100]⟩:ByteArray).toList then
 none
 else
 if p0.toList==(⟨#[100,101,102]⟩:ByteArray).toList then
 none
 else
 if p0.toList==(⟨#[83,101,116]⟩:ByteArray).toList then
 some true
 else
 some false
abbrev K225 (p0:ByteArray) (r:Bool) (C:Cf):Prop:=C 225 [] [at' p0] (ab r) [] 0
theorem q225:Qf 225 Tryz.f225:=⟨Tryz.func225,by kernel_rfl⟩
theorem k225{p0 r}(h:K225 p0 r Ci):K225 p0 r Ct:=⟨h,⟨tv,tv⟩,forall_nil,tv,forall_nil⟩
theorem c225{qq p0 r}(h:e225 qq p0=some r):K225 p0 r Ct:=by
 unfold e225 at h
 rcases spl h with⟨h1,h⟩|⟨h1,h⟩
 obtain rfl:=sj h
 exact k225 (tF q225 0 [] (oB 0 h1 o0))
 have k:=oB 0 h1 o0
 obtain⟨h2,h⟩:=splF h
 have k:=oB 0 h2 k
 obtain⟨h3,h⟩:=splF h
 have k:=oB 0 h3 k
 rcases spl h with⟨h4,h⟩|⟨h4,h⟩
 obtain rfl:=sj h
 exact k225 (tF q225 0 [] (oB 0 h4 k))
 obtain rfl:=sj h
 exact k225 (tF q225 0 [] (oB 0 h4 k))
def e227(qq:Nat)(p0:Int):Option (Bool):=
 if decide (p0<128)then
 if decide (p0≥97)then
 if decide (p0≤122)then
 some true
 else
 if decide (p0≥65)then
 some (decide (p0≤90))
 else
 none
 else
 if decide (p0≥65)then
 some (decide (p0≤90))
 else
 some false
 else
 none
abbrev K227 (p0:Int) (r:Bool) (C:Cf):Prop:=C 227 [] [ai p0] (ab r) [] 0
theorem q227:Qf 227 Tryz.f227:=⟨Tryz.func227,by kernel_rfl⟩
theorem k227{p0 r}(h:K227 p0 r Ci):K227 p0 r Ct:=⟨h,⟨tv,tv⟩,forall_nil,tv,forall_nil⟩
theorem c227{qq p0 r}(h:e227 qq p0=some r):K227 p0 r Ct:=by
 unfold e227 at h
 obtain⟨h1,h⟩:=spT h
 have k:=oB 0 h1 o0
 rcases spl h with⟨h2,h⟩|⟨h2,h⟩
 have k:=oB 0 h2 k
 rcases spl h with⟨h3,h⟩|⟨h3,h⟩
 obtain rfl:=sj h
 exact k227 (tF q227 0 [] (oB 0 h3 k))
 have k:=oB 0 h3 k
 obtain⟨h4,h⟩:=spT h
 obtain rfl:=sj h
 exact k227 (tF q227 1 [] (oB 0 h4 k))
 have k:=oB 0 h2 k
 rcases spl h with⟨h5,h⟩|⟨h5,h⟩
 obtain rfl:=sj h
 exact k227 (tF q227 1 [] (oB 0 h5 k))
 obtain rfl:=sj h
 exact k227 (tF q227 0 [] (oB 0 h5 k))
def e226(qq:Nat)(p0:Int):Option (Bool):=
 e227 qq p0>>=fun r1=>
 if r1 then
 some true
 else
 none
abbrev K226 (p0:Int) (r:Bool) (C:Cf):Prop:=C 226 [] [ai p0] (ab r) [] 0
theorem q226:Qf 226 Tryz.f226:=⟨Tryz.func226,by kernel_rfl⟩
theorem k226{p0 r}(h:K226 p0 r Ci):K226 p0 r Ct:=⟨h,⟨tv,tv⟩,forall_nil,tv,forall_nil⟩
theorem c226{qq p0 r}(h:e226 qq p0=some r):K226 p0 r Ct:=by
 unfold e226 at h
 obtain⟨r1,h2,h⟩:=obind h
 obtain⟨h3,h⟩:=spT h
 obtain rfl:=sj h
 exact k226 (tF q226 0 [] (oK 0 [] h3 (c227 h2) o0))
def e133Lak:Nat->(List Int×Int×Int)->Int->Option (Bool)
 |0,_,_=>none
 |qq+1,r1,v32=>
 if decide (v32<(List.length r1.1:Int))then
 gidx r1.1 v32>>=fun x10=>
 e226 qq x10>>=fun r12=>
 if r12 then
 e133Lak qq r1 (w64 (v32+1))
 else
 none
 else
 gidx r1.1 0>>=fun x15=>
 e227 qq x15>>=fun r17=>
 if r17 then
 some true
 else
 none
def e133(qq:Nat)(p0:ByteArray):Option (Bool):=
 e224 qq p0>>=fun r1=>
 if r1.2.2 != 0 then
 none
 else
 if (List.length r1.1:Int)==0 then
 none
 else
 if decide ((p0.size:Int)>40)then
 none
 else
 e225 qq p0>>=fun r6=>
 if r6 then
 none
 else
 e133Lak qq r1 0
def g133LakE0(j:Nat->Value)(r1:List Int×Int×Int)(v32:Int):=sp j 55 0 [(3,slv intC r1.1 .no),(30,slv intC r1.1 .no),(31,ai (List.length r1.1:Int)),(32,ai v32)]
def g133LakS0(r1:List Int×Int×Int)(v32:Int):LSt:=⟨[],0,[],0,[]⟩
abbrev K133 (p0:ByteArray) (r:Bool) (C:Cf):Prop:=C 133 [] [at' p0] (ab r) [] 0
theorem q133:Qf 133 Tryz.f133:=⟨Tryz.func133,by kernel_rfl⟩
theorem k133{p0 r}(h:K133 p0 r Ci):K133 p0 r Ct:=⟨h,⟨tv,tv⟩,forall_nil,tv,forall_nil⟩
theorem l133Lak:∀qq:Nat,(∀r1 v32 r,e133Lak qq r1 v32=some r->(∀j,Dl Tryz.prog 0 (inn (inn (rgt (lft (rgt (rgt (rgt (bod Tryz.f133)))))))) (g133LakE0 j r1 v32) (g133LakS0 r1 v32) (frameQ Tryz.prog 0 (FinQ Tryz.prog 0 Tryz.f133 (ab r) [] 0) [.blk 0,.seq (rgt (rgt (rgt (rgt (bod Tryz.f133)))))]))):=by
 intro qq
 induction qq with
 |zero=>
  exact fun _ _ _ h=>nn h
 |succ qq ih=>
  intro r1 v32 r h
  rw[e133Lak]at h
  rcases spl h with⟨h9,h⟩|⟨h9,h⟩
  obtain⟨x10,h11,h⟩:=obind h
  obtain⟨r12,h13,h⟩:=obind h
  have k:=oA 0 (ix24 (o:=.no) h11)<|oB 0 h9 o0
  obtain⟨h14,h⟩:=spT h
  exact fun j=>lH 2 [] [] [] [3,30,31,32] (oD (dI r1.1)<|oD (dI r1.1)<|oK 1 [] h14 (c226 h13) k) (ih _ _ _ h)
  obtain⟨x15,h16,h⟩:=obind h
  obtain⟨r17,h18,h⟩:=obind h
  have k:=oA 0 (ix24 (o:=.no) h16)<|oB 0 h9 o0
  obtain⟨h19,h⟩:=spT h
  obtain rfl:=sj h
  exact fun j=>lF 0 [] (oK 1 [] h19 (c227 h18) k)
theorem c133{qq p0 r}(h:e133 qq p0=some r):K133 p0 r Ct:=by
 unfold e133 at h
 obtain⟨r1,h2,h⟩:=obind h
 have k:=oC 0 [] (c224 h2) o0
 obtain⟨h3,h⟩:=splF h
 have k:=oB 3 h3 k
 obtain⟨h4,h⟩:=splF h
 have k:=oB 1 h4 k
 obtain⟨h5,h⟩:=splF h
 obtain⟨r6,h7,h⟩:=obind h
 have k:=oB 1 h5 k
 obtain⟨h8,h⟩:=splF h
 exact k133 (tH q133 1 [] [] [] [3,30,31,32] (oD (dI r1.1)<|oD (dI r1.1)<|oK 0 [] h8 (c225 h7) k) (l133Lak _ _ _ _ h))
def e191Lal(qq:Nat)(p0:Tm)(p1 p2 v28:Int)(v7:List Int):Option (List Int):=
 if decide (v28<(List.length p0.sub:Int))then
 none
 else
 some v7
def e191(qq:Nat)(p0:Tm)(p1 p2:Int):Option (List Int):=
 if p0.k==p1 then
 gapp 8 ([]:List Int) [p0.n]>>=fun l2=>
 e191Lal qq p0 p1 p2 0 l2
 else
 if p0.k==p2 then
 none
 else
 e191Lal qq p0 p1 p2 0 []
def g191LalE0(j:Nat->Value)(p0:Tm)(p1 p2 v28:Int)(v7:List Int):=sp j 40 0 [(1,ai p1),(2,ai p2),(7,slv intC v7 (.st 0 1)),(26,slv tmCells p0.sub .no),(27,ai (List.length p0.sub:Int)),(28,ai v28)]
def g191LalS0(p0:Tm)(p1 p2 v28:Int)(v7:List Int):LSt:=⟨[],0,[0],1,[]⟩
def g191LalE1(j:Nat->Value)(p0:Tm)(p1 p2 v28:Int)(v7:List Int):=sp j 40 0 [(1,ai p1),(2,ai p2),(7,slv intC v7 .nl),(26,slv tmCells p0.sub .no),(27,ai (List.length p0.sub:Int)),(28,ai v28)]
def g191LalS1(p0:Tm)(p1 p2 v28:Int)(v7:List Int):LSt:=⟨[],0,[],0,[]⟩
abbrev K191 (p0:Tm) (p1 p2:Int) (r:List Int) (C:Cf):Prop:=C 191 [] [tmA p0,ai p1,ai p2] (slv intC r (.st 0 1)) [] 1
theorem q191:Qf 191 Tryz.f191:=⟨Tryz.func191,by kernel_rfl⟩
theorem k191{p0 p1 p2 r}(h:K191 p0 p1 p2 r Ci):K191 p0 p1 p2 r Ct:=⟨h,⟨⟨tv,tv,⟨tv,dT _⟩,tv⟩,tv,tv,tv⟩,forall_nil,dI _,forall_nil⟩
theorem l191Lal(qq p0 p1 p2 v28 v7 r)(h:e191Lal qq p0 p1 p2 v28 v7=some r):(∀j,Dl Tryz.prog 0 (inn (inn (rgt (lft (rgt (rgt (rgt (bod Tryz.f191)))))))) (g191LalE0 j p0 p1 p2 v28 v7) (g191LalS0 p0 p1 p2 v28 v7) (frameQ Tryz.prog 0 (FinQ Tryz.prog 0 Tryz.f191 (slv intC r (.st 0 1)) [] 1) [.blk 0,.seq (rgt (rgt (rgt (rgt (bod Tryz.f191)))))]))∧(∀j,Dl Tryz.prog 0 (inn (inn (rgt (lft (rgt (rgt (rgt (bod Tryz.f191)))))))) (g191LalE1 j p0 p1 p2 v28 v7) (g191LalS1 p0 p1 p2 v28 v7) (frameQ Tryz.prog 0 (FinQ Tryz.prog 0 Tryz.f191 (slv intC r (.st 0 1)) [] 1) [.blk 0,.seq (rgt (rgt (rgt (rgt (bod Tryz.f191)))))])):=by
 unfold e191Lal at h
 refine⟨?_,?_⟩
 obtain⟨h4,h⟩:=splF h
 obtain rfl:=sj h
 exact fun j=>lG 0 [] [] [0] true (oD (dI v7)<|oB 0 h4 o0)
 obtain⟨h4,h⟩:=splF h
 obtain rfl:=sj h
 exact fun j=>lG 0 [(none,6,1)] [] [0] true (oD (dI v7)<|oB 0 h4 o0)
theorem c191{qq p0 p1 p2 r}(h:e191 qq p0 p1 p2=some r):K191 p0 p1 p2 r Ct:=by
 unfold e191 at h
 rcases spl h with⟨h1,h⟩|⟨h1,h⟩
 obtain⟨l2,h3,h⟩:=obind h
 exact k191 (tH q191 2 [] [] [0] [1,2,7,26,27,28] (oD (dT p0.sub)<|oD (dI l2)<|oP 2 (apS24 h3 (by simp))<|oB 1 h1 o0) ((l191Lal qq _ _ _ _ _ _ h).1))
 have k:=oB 1 h1 o0
 obtain⟨h4,h⟩:=splF h
 exact k191 (tH q191 2 [] [] [] [1,2,7,26,27,28] (oD (dT p0.sub)<|oD (dI ([]:List Int))<|oB 1 h4 k) ((l191Lal qq _ _ _ _ _ _ h).2))
def e112(qq:Nat)(p0:Tm):Option (List Int):=
 (e73 qq p0)>>=fun r1=>
 if r1=true then
  (e191 qq p0 8 8)>>=fun r4=>
  if decide (List.length r4<4611686018427387904)=true then some (rise r4)else none
 else
  some []
theorem c112{qq:Nat}{p0:Tm}{r:List Int}(h:e112 qq p0=some r):CT Tryz.prog 112 [] [tmA p0] (.sl (flat intC r) (List.length r) .no) [] 0:=by
 unfold e112 at h
 obtain⟨r1,h2,h⟩:=obind h
 rcases bcases r1 with h3|h3
 ·replace h:=ifT h3 h
  obtain⟨l,h5,h⟩:=obind h
  rcases bcases (decide (List.length l<4611686018427387904))with h6|h6
  ·replace h:=ifT h6 h
   replace h:=Option.some.inj h
   subst h
   subst h3
   have hsz:List.length l<4611686018427387904:=by simpa using h6
   refine⟨?_,⟨⟨trivial,trivial,⟨trivial,dT _⟩,trivial⟩,trivial⟩,(fun _ h=>nomatch h),dI _,(fun _ h=>nomatch h)⟩
   have k0:knd (bod Tryz.f112)=1:=by kernel_rfl
   have k1:knd (rgt (bod Tryz.f112))=1:=by kernel_rfl
   have k2:knd (rgt (rgt (bod Tryz.f112)))=1:=by kernel_rfl
   have k3:isReg (lft (rgt (rgt (bod Tryz.f112))))=true:=by kernel_rfl
   have k4:clOf (regOps (lft (rgt (rgt (bod Tryz.f112)))))[2]? = some (some 8,190,#[.tmp 7]):=by kernel_rfl
   have k5:(Tryz.f190.name == "runtime.NumGoroutine")=false:=by kernel_rfl
   have k6:Tryz.f190.body.isNone=false:=by kernel_rfl
   have x1:krun Tryz.prog prim 3000 (.run (lft (bod Tryz.f112))) [] ([tmA p0]++List.replicate (Tryz.f112.ntmps-1) (.val undef)) (st0 []) []=some (.fin .normal,[tmA p0,.mp 0 0,.sl [] 0 .nl,.val undef,.val undef,.val undef,.val undef,.val undef,.val undef],⟨[(0,.cells (tmL p0))],1,[],0,[]⟩,[],[]):=by kernel_rfl
   have x2:krun Tryz.prog prim 3000 (.run (lft (rgt (bod Tryz.f112)))) [] [tmA p0,.mp 0 0,.sl [] 0 .nl,.val undef,.val undef,.val undef,.val undef,.val undef,.val undef] ⟨[(0,.cells (tmL p0))],1,[],0,[]⟩ [.no,.call [] [] 0 (ab true) (some true),.no]=some (.fin .normal,[tmA p0,.mp 0 0,.sl [] 0 .nl,tmA p0,ab true,ab false,.val undef,.val undef,.val undef],⟨[(0,.cells (tmL p0))],1,[],0,[]⟩,[],[.bit true true,.call 73 [] [tmA p0] (ab true) [] 0]):=by kernel_rfl
   have x3:(xops Tryz.prog prim (regOps (lft (rgt (rgt (bod Tryz.f112))))) ((regOps (lft (rgt (rgt (bod Tryz.f112))))).toList.take 2) 0 [tmA p0,.mp 0 0,.sl [] 0 .nl,tmA p0,ab true,ab false,.val undef,.val undef,.val undef] ⟨[(0,.cells (tmL p0))],1,[],0,[]⟩ [.no,.call [] [] 1 (.sl (flat intC l) l.length (.st 0 1)) none]).map Prod.snd=some ([tmA p0,.mp 0 0,.sl [] 0 .nl,tmA p0,ab true,ab false,tmA p0,.sl (flat intC l) l.length (.st 0 1),.val undef],⟨[(0,.cells (tmL p0))],1,[0],1,[]⟩,[],[.call 191 [] [tmA p0,ai 8,ai 8] (.sl (flat intC l) l.length (.st 0 1)) [] 1]):=by kernel_rfl
   have x4:∀j:Nat->Value,(xops Tryz.prog prim (regOps (lft (rgt (rgt (bod Tryz.f112))))) ((regOps (lft (rgt (rgt (bod Tryz.f112))))).toList.drop 3) 3 (eset (tells [] (mutEnv [] j [tmA p0,.mp 0 0,.sl [] 0 .nl,tmA p0,ab true,ab false,tmA p0,.sl (flat intC l) l.length (.st 0 1),.val undef] 0)) (some 8) (.sl (flat intC (rise l)) (rise l).length .no)) (pickSt [] ⟨[(0,.cells (tmL p0))],1,[0],1,[]⟩) []).map Prod.snd=some ([.val (j 0),.val (j 1),.sl (flat intC (rise l)) (rise l).length .no,.val (j 3),ab true,ab false,.val (j 6),.val (j 7),.sl (flat intC (rise l)) (rise l).length .no],⟨[],1,[],0,[]⟩,[],[]):=fun j=>by kernel_rfl
   have x5:∀j:Nat->Value,kfin Tryz.prog prim 0 Tryz.f112 3000 (.run (rgt (rgt (rgt (bod Tryz.f112))))) [] [.val (j 0),.val (j 1),.sl (flat intC (rise l)) (rise l).length .no,.val (j 3),ab true,ab false,.val (j 6),.val (j 7),.sl (flat intC (rise l)) (rise l).length .no] ⟨[],1,[],0,[]⟩ [] [] [] [] false=some (.sl (flat intC (rise l)) (rise l).length .no,[],[.data (flat intC (rise l))]):=fun j=>by kernel_rfl
   refine CTri.body Tryz.func112 (by kernel_rfl) ?_
   refine Dv.seqP k0 ?_
   refine krun_ok (Q:=_) prim_ok mixed 3000 (.run (lft (bod Tryz.f112))) [] _ _ _ _ _ _ _ _ x1 ObsOk.nil ?_
   refine Dv.seqP k1 ?_
   refine krun_ok (Q:=_) prim_ok mixed 3000 (.run (lft (rgt (bod Tryz.f112)))) [] _ _ _ _ _ _ _ _ x2 (ObsOk.cons (obBit rfl) (ObsOk.cons (obCall (c73 h2)) ObsOk.nil)) ?_
   refine Dv.seqP k2 ?_
   obtain⟨id,k7⟩:=regP k3
   rw[k7]
   refine Dv.mut prim_ok (na:=(0:Nat)) rfl 2 [] [] _ x3 (ObsOk.cons (obCall (c191 h5)) ObsOk.nil) k4 Tryz.func190 k5 k6 (fun i X h=>by cases h) ?_ x4 ObsOk.nil ?_
   ·intro G0 W hB G w hE hR u hu
    refine(rise_call hR (by rfl) hsz hu).mono ?_
    rintro e w' ⟨v,b,S,z1,z2,z3,z4,z5,z6⟩
    exact⟨v,b,S,z1,z2,z3,z4,z5,fun G' _ _ hS=>⟨z6 G' hS,fun q hq=>by cases hq⟩⟩
   ·intro j
    exact kfin_ok (na:=(0:Nat)) prim_ok mixed (x5 j) (ObsOk.cons (obData (dI _)) ObsOk.nil) (by decide)
  ·replace h:=ifF h6 h
   cases h
 ·replace h:=ifF h3 h
  replace h:=Option.some.inj h
  subst h
  exact⟨CTri.toFin prim_ok mixed Tryz.func112 (by kernel_rfl) 3000 [.no,.call [] [] 0 (ab r1) (some false),.no] [] [] [] false (by kernel_rfl) (ObsOk.cons (obBit h3) (ObsOk.cons (obCall (c73 h2)) (ObsOk.cons (obData (dI ([]:List Int))) ObsOk.nil))) (by decide),⟨⟨trivial,trivial,⟨trivial,dT _⟩,trivial⟩,trivial⟩,(fun _ h=>nomatch h),dI _,(fun _ h=>nomatch h)⟩
def e189Lam(qq:Nat)(p0:Tm)(p1 v20 v5:Int):Option (Int):=
 if decide (v20<(List.length p0.sub:Int))then
 none
 else
 some v5
def e189(qq:Nat)(p0:Tm)(p1:Int):Option (Int):=
 if p0.k==1 then
 none
 else
 e189Lam qq p0 p1 0 0
def g189LamE0(j:Nat->Value)(p0:Tm)(p1 v20 v5:Int):=sp j 36 0 [(1,ai p1),(2,.mp 0 0),(5,ai v5),(18,slv tmCells p0.sub .no),(19,ai (List.length p0.sub:Int)),(20,ai v20)]
def g189LamS0(p0:Tm)(p1 v20 v5:Int):LSt:=⟨[(0,.cells [ai p0.k,ai p0.n,slv tmCells p0.sub .no])],1,[],0,[]⟩
abbrev K189 (p0:Tm) (p1 r:Int) (C:Cf):Prop:=C 189 [] [tmA p0,ai p1] (ai r) [] 0
theorem q189:Qf 189 Tryz.f189:=⟨Tryz.func189,by kernel_rfl⟩
theorem k189{p0 p1 r}(h:K189 p0 p1 r Ci):K189 p0 p1 r Ct:=⟨h,⟨⟨tv,tv,⟨tv,dT _⟩,tv⟩,tv,tv⟩,forall_nil,tv,forall_nil⟩
theorem l189Lam(qq p0 p1 v20 v5 r)(h:e189Lam qq p0 p1 v20 v5=some r):(∀j,Dl Tryz.prog 0 (inn (inn (rgt (lft (rgt (rgt (rgt (bod Tryz.f189)))))))) (g189LamE0 j p0 p1 v20 v5) (g189LamS0 p0 p1 v20 v5) (frameQ Tryz.prog 0 (FinQ Tryz.prog 0 Tryz.f189 (ai r) [] 0) [.blk 0,.seq (rgt (rgt (rgt (rgt (bod Tryz.f189)))))])):=by
 unfold e189Lam at h
 obtain⟨h2,h⟩:=splF h
 obtain rfl:=sj h
 exact fun j=>lF 0 [] (oB 0 h2 o0)
theorem c189{qq p0 p1 r}(h:e189 qq p0 p1=some r):K189 p0 p1 r Ct:=by
 unfold e189 at h
 obtain⟨h1,h⟩:=splF h
 exact k189 (tH q189 2 [] [0] [] [1,2,5,18,19,20] (oD (dT p0.sub)<|oD (dT p0.sub)<|oB 1 h1 o0) (l189Lam qq _ _ _ _ _ h))
def e279(qq:Nat)(p0:Tm):Option (List Int):=
 (e73 qq p0)>>=fun r1=>
 if r1=true then
  (e191 qq p0 6 7)>>=fun r4=>
  if decide (List.length r4<4611686018427387904)=true then some (rise r4)else none
 else
  some []
theorem c279{qq:Nat}{p0:Tm}{r:List Int}(h:e279 qq p0=some r):CT Tryz.prog 279 [] [tmA p0] (.sl (flat intC r) (List.length r) .no) [] 0:=by
 unfold e279 at h
 obtain⟨r1,h2,h⟩:=obind h
 rcases bcases r1 with h3|h3
 ·replace h:=ifT h3 h
  obtain⟨l,h5,h⟩:=obind h
  rcases bcases (decide (List.length l<4611686018427387904))with h6|h6
  ·replace h:=ifT h6 h
   replace h:=Option.some.inj h
   subst h
   subst h3
   have hsz:List.length l<4611686018427387904:=by simpa using h6
   refine⟨?_,⟨⟨trivial,trivial,⟨trivial,dT _⟩,trivial⟩,trivial⟩,(fun _ h=>nomatch h),dI _,(fun _ h=>nomatch h)⟩
   have k0:knd (bod Tryz.f279)=1:=by kernel_rfl
   have k1:knd (rgt (bod Tryz.f279))=1:=by kernel_rfl
   have k2:knd (rgt (rgt (bod Tryz.f279)))=1:=by kernel_rfl
   have k3:isReg (lft (rgt (rgt (bod Tryz.f279))))=true:=by kernel_rfl
   have k4:clOf (regOps (lft (rgt (rgt (bod Tryz.f279)))))[2]? = some (some 8,190,#[.tmp 7]):=by kernel_rfl
   have k5:(Tryz.f190.name == "runtime.NumGoroutine")=false:=by kernel_rfl
   have k6:Tryz.f190.body.isNone=false:=by kernel_rfl
   have x1:krun Tryz.prog prim 3000 (.run (lft (bod Tryz.f279))) [] ([tmA p0]++List.replicate (Tryz.f279.ntmps-1) (.val undef)) (st0 []) []=some (.fin .normal,[tmA p0,.mp 0 0,.sl [] 0 .nl,.val undef,.val undef,.val undef,.val undef,.val undef,.val undef],⟨[(0,.cells (tmL p0))],1,[],0,[]⟩,[],[]):=by kernel_rfl
   have x2:krun Tryz.prog prim 3000 (.run (lft (rgt (bod Tryz.f279)))) [] [tmA p0,.mp 0 0,.sl [] 0 .nl,.val undef,.val undef,.val undef,.val undef,.val undef,.val undef] ⟨[(0,.cells (tmL p0))],1,[],0,[]⟩ [.no,.call [] [] 0 (ab true) (some true),.no]=some (.fin .normal,[tmA p0,.mp 0 0,.sl [] 0 .nl,tmA p0,ab true,ab false,.val undef,.val undef,.val undef],⟨[(0,.cells (tmL p0))],1,[],0,[]⟩,[],[.bit true true,.call 73 [] [tmA p0] (ab true) [] 0]):=by kernel_rfl
   have x3:(xops Tryz.prog prim (regOps (lft (rgt (rgt (bod Tryz.f279))))) ((regOps (lft (rgt (rgt (bod Tryz.f279))))).toList.take 2) 0 [tmA p0,.mp 0 0,.sl [] 0 .nl,tmA p0,ab true,ab false,.val undef,.val undef,.val undef] ⟨[(0,.cells (tmL p0))],1,[],0,[]⟩ [.no,.call [] [] 1 (.sl (flat intC l) l.length (.st 0 1)) none]).map Prod.snd=some ([tmA p0,.mp 0 0,.sl [] 0 .nl,tmA p0,ab true,ab false,tmA p0,.sl (flat intC l) l.length (.st 0 1),.val undef],⟨[(0,.cells (tmL p0))],1,[0],1,[]⟩,[],[.call 191 [] [tmA p0,ai 6,ai 7] (.sl (flat intC l) l.length (.st 0 1)) [] 1]):=by kernel_rfl
   have x4:∀j:Nat->Value,(xops Tryz.prog prim (regOps (lft (rgt (rgt (bod Tryz.f279))))) ((regOps (lft (rgt (rgt (bod Tryz.f279))))).toList.drop 3) 3 (eset (tells [] (mutEnv [] j [tmA p0,.mp 0 0,.sl [] 0 .nl,tmA p0,ab true,ab false,tmA p0,.sl (flat intC l) l.length (.st 0 1),.val undef] 0)) (some 8) (.sl (flat intC (rise l)) (rise l).length .no)) (pickSt [] ⟨[(0,.cells (tmL p0))],1,[0],1,[]⟩) []).map Prod.snd=some ([.val (j 0),.val (j 1),.sl (flat intC (rise l)) (rise l).length .no,.val (j 3),ab true,ab false,.val (j 6),.val (j 7),.sl (flat intC (rise l)) (rise l).length .no],⟨[],1,[],0,[]⟩,[],[]):=fun j=>by kernel_rfl
   have x5:∀j:Nat->Value,kfin Tryz.prog prim 0 Tryz.f279 3000 (.run (rgt (rgt (rgt (bod Tryz.f279))))) [] [.val (j 0),.val (j 1),.sl (flat intC (rise l)) (rise l).length .no,.val (j 3),ab true,ab false,.val (j 6),.val (j 7),.sl (flat intC (rise l)) (rise l).length .no] ⟨[],1,[],0,[]⟩ [] [] [] [] false=some (.sl (flat intC (rise l)) (rise l).length .no,[],[.data (flat intC (rise l))]):=fun j=>by kernel_rfl
   refine CTri.body Tryz.func279 (by kernel_rfl) ?_
   refine Dv.seqP k0 ?_
   refine krun_ok (Q:=_) prim_ok mixed 3000 (.run (lft (bod Tryz.f279))) [] _ _ _ _ _ _ _ _ x1 ObsOk.nil ?_
   refine Dv.seqP k1 ?_
   refine krun_ok (Q:=_) prim_ok mixed 3000 (.run (lft (rgt (bod Tryz.f279)))) [] _ _ _ _ _ _ _ _ x2 (ObsOk.cons (obBit rfl) (ObsOk.cons (obCall (c73 h2)) ObsOk.nil)) ?_
   refine Dv.seqP k2 ?_
   obtain⟨id,k7⟩:=regP k3
   rw[k7]
   refine Dv.mut prim_ok (na:=(0:Nat)) rfl 2 [] [] _ x3 (ObsOk.cons (obCall (c191 h5)) ObsOk.nil) k4 Tryz.func190 k5 k6 (fun i X h=>by cases h) ?_ x4 ObsOk.nil ?_
   ·intro G0 W hB G w hE hR u hu
    refine(rise_call hR (by rfl) hsz hu).mono ?_
    rintro e w' ⟨v,b,S,z1,z2,z3,z4,z5,z6⟩
    exact⟨v,b,S,z1,z2,z3,z4,z5,fun G' _ _ hS=>⟨z6 G' hS,fun q hq=>by cases hq⟩⟩
   ·intro j
    exact kfin_ok (na:=(0:Nat)) prim_ok mixed (x5 j) (ObsOk.cons (obData (dI _)) ObsOk.nil) (by decide)
  ·replace h:=ifF h6 h
   cases h
 ·replace h:=ifF h3 h
  replace h:=Option.some.inj h
  subst h
  exact⟨CTri.toFin prim_ok mixed Tryz.func279 (by kernel_rfl) 3000 [.no,.call [] [] 0 (ab r1) (some false),.no] [] [] [] false (by kernel_rfl) (ObsOk.cons (obBit h3) (ObsOk.cons (obCall (c73 h2)) (ObsOk.cons (obData (dI ([]:List Int))) ObsOk.nil))) (by decide),⟨⟨trivial,trivial,⟨trivial,dT _⟩,trivial⟩,trivial⟩,(fun _ h=>nomatch h),dI _,(fun _ h=>nomatch h)⟩
def e181(qq:Nat)(p0:Tm)(p1 p2:Int):Option (Bool):=
 e73 qq p0>>=fun r1=>
 if r1 then
 e189 qq p0 0>>=fun r4=>
 if decide (r4>p1)then
 none
 else
 e279 qq p0>>=fun r7=>
 if (List.length r7:Int)==0 then
 some true
 else
 gidx r7 (w64 ((List.length r7:Int)-1))>>=fun x10=>
 some (decide (x10<p2))
 else
 none
abbrev K181 (p0:Tm) (p1 p2:Int) (r:Bool) (C:Cf):Prop:=C 181 [] [tmA p0,ai p1,ai p2] (ab r) [] 0
theorem q181:Qf 181 Tryz.f181:=⟨Tryz.func181,by kernel_rfl⟩
theorem k181{p0 p1 p2 r}(h:K181 p0 p1 p2 r Ci):K181 p0 p1 p2 r Ct:=⟨h,⟨⟨tv,tv,⟨tv,dT _⟩,tv⟩,tv,tv,tv⟩,forall_nil,tv,forall_nil⟩
theorem c181{qq p0 p1 p2 r}(h:e181 qq p0 p1 p2=some r):K181 p0 p1 p2 r Ct:=by
 unfold e181 at h
 obtain⟨r1,h2,h⟩:=obind h
 obtain⟨h3,h⟩:=spT h
 obtain⟨r4,h5,h⟩:=obind h
 have k:=oC 2 [] (c189 h5)<|oK 1 [] h3 (c73 h2) o0
 obtain⟨h6,h⟩:=splF h
 obtain⟨r7,h8,h⟩:=obind h
 have k:=oC 1 [] (c279 h8)<|oB 0 h6 k
 rcases spl h with⟨h9,h⟩|⟨h9,h⟩
 obtain rfl:=sj h
 exact k181 (tF q181 0 [] (oB 1 h9 k))
 obtain⟨x10,h11,h⟩:=obind h
 obtain rfl:=sj h
 exact k181 (tF q181 2 [] (oA 2 (ix24 (o:=.no) h11)<|oB 1 h9 k))
def e134(qq:Nat)(p0:Tm)(p1:Int):Option (Bool):=
 e181 qq p0 0 p1>>=fun r1=>
 if r1 then
 e112 qq p0>>=fun r4=>
 some ((List.length r4:Int)==0)
 else
 none
abbrev K134 (p0:Tm) (p1:Int) (r:Bool) (C:Cf):Prop:=C 134 [] [tmA p0,ai p1] (ab r) [] 0
theorem q134:Qf 134 Tryz.f134:=⟨Tryz.func134,by kernel_rfl⟩
theorem k134{p0 p1 r}(h:K134 p0 p1 r Ci):K134 p0 p1 r Ct:=⟨h,⟨⟨tv,tv,⟨tv,dT _⟩,tv⟩,tv,tv⟩,forall_nil,tv,forall_nil⟩
theorem c134{qq p0 p1 r}(h:e134 qq p0 p1=some r):K134 p0 p1 r Ct:=by
 unfold e134 at h
 obtain⟨r1,h2,h⟩:=obind h
 obtain⟨h3,h⟩:=spT h
 obtain⟨r4,h5,h⟩:=obind h
 obtain rfl:=sj h
 exact k134 (tF q134 2 [] (oC 1 [] (c112 h5)<|oK 1 [] h3 (c181 h2) o0))
def e228(qq:Nat)(p0:Tm):Option (Bool):=
 if p0.k==0 then
 if p0.n==0 then
 some ((List.length p0.sub:Int)==0)
 else
 none
 else
 none
abbrev K228 (p0:Tm) (r:Bool) (C:Cf):Prop:=C 228 [] [tmA p0] (ab r) [] 0
theorem q228:Qf 228 Tryz.f228:=⟨Tryz.func228,by kernel_rfl⟩
theorem k228{p0 r}(h:K228 p0 r Ci):K228 p0 r Ct:=⟨h,⟨⟨tv,tv,⟨tv,dT _⟩,tv⟩,tv⟩,forall_nil,tv,forall_nil⟩
theorem c228{qq p0 r}(h:e228 qq p0=some r):K228 p0 r Ct:=by
 unfold e228 at h
 obtain⟨h1,h⟩:=spT h
 have k:=oB 1 h1 o0
 obtain⟨h2,h⟩:=spT h
 obtain rfl:=sj h
 exact k228 (tF q228 3 [] (oB 1 h2 k))
def e229Lan:Nat->(List Int)->Int->Int->Option (Bool)
 |0,_,_,_=>none
 |qq+1,p0,p1,v9=>
 if decide (v9<(List.length p0:Int))then
 gidx p0 v9>>=fun x2=>
 if x2 != (w64 (p1+v9))then
 none
 else
 e229Lan qq p0 p1 (w64 (v9+1))
 else
 some true
def e229(qq:Nat)(p0:List Int)(p1:Int):Option (Bool):=
 e229Lan qq p0 p1 0
def g229LanE0(j:Nat->Value)(p0:List Int)(p1 v9:Int):=sp j 20 0 [(1,ai p1),(7,slv intC p0 .no),(8,ai (List.length p0:Int)),(9,ai v9)]
def g229LanS0(p0:List Int)(p1 v9:Int):LSt:=⟨[],0,[],0,[]⟩
abbrev K229 (p0:List Int) (p1:Int) (r:Bool) (C:Cf):Prop:=C 229 [] [slv intC p0 .no,ai p1] (ab r) [] 0
theorem q229:Qf 229 Tryz.f229:=⟨Tryz.func229,by kernel_rfl⟩
theorem k229{p0 p1 r}(h:K229 p0 p1 r Ci):K229 p0 p1 r Ct:=⟨h,⟨⟨tv,dI _⟩,tv,tv⟩,forall_nil,tv,forall_nil⟩
theorem l229Lan:∀qq:Nat,(∀p0 p1 v9 r,e229Lan qq p0 p1 v9=some r->(∀j,Dl Tryz.prog 0 (inn (inn (rgt (lft (rgt (bod Tryz.f229)))))) (g229LanE0 j p0 p1 v9) (g229LanS0 p0 p1 v9) (frameQ Tryz.prog 0 (FinQ Tryz.prog 0 Tryz.f229 (ab r) [] 0) [.blk 0,.seq (rgt (rgt (bod Tryz.f229)))]))):=by
 intro qq
 induction qq with
 |zero=>
  exact fun _ _ _ _ h=>nn h
 |succ qq ih=>
  intro p0 p1 v9 r h
  rw[e229Lan]at h
  rcases spl h with⟨h1,h⟩|⟨h1,h⟩
  obtain⟨x2,h3,h⟩:=obind h
  have k:=oA 0 (ix24 (o:=.no) h3)<|oB 0 h1 o0
  obtain⟨h4,h⟩:=splF h
  exact fun j=>lH 1 [] [] [] [1,7,8,9] (oD (dI p0)<|oB 2 h4 k) (ih _ _ _ _ h)
  obtain rfl:=sj h
  exact fun j=>lF 0 [] (oB 0 h1 o0)
theorem c229{qq p0 p1 r}(h:e229 qq p0 p1=some r):K229 p0 p1 r Ct:=by
 unfold e229 at h
 exact k229 (tH q229 1 [] [] [] [1,7,8,9] (oD (dI p0) o0) (l229Lan _ _ _ _ _ h))
def e337(qq:Nat)(p0:List Ent)(p1 p2:Int):Option (Bool):=
 if decide (p1≥0)then
 if decide (p1<(List.length p0:Int))then
 gidx p0 p1>>=fun x3=>
 some (x3.kind==p2)
 else
 none
 else
 none
abbrev K337 (p0:List Ent) (p1 p2:Int) (r:Bool) (C:Cf):Prop:=C 337 [] [slv entL p0 .no,ai p1,ai p2] (ab r) [] 0
theorem q337:Qf 337 Tryz.f337:=⟨Tryz.func337,by kernel_rfl⟩
theorem k337{p0 p1 p2 r}(h:K337 p0 p1 p2 r Ci):K337 p0 p1 p2 r Ct:=⟨h,⟨⟨tv,dE _⟩,tv,tv,tv⟩,forall_nil,tv,forall_nil⟩
theorem c337{qq p0 p1 p2 r}(h:e337 qq p0 p1 p2=some r):K337 p0 p1 p2 r Ct:=by
 unfold e337 at h
 obtain⟨h1,h⟩:=spT h
 have k:=oB 0 h1 o0
 obtain⟨h2,h⟩:=spT h
 obtain⟨x3,h4,h⟩:=obind h
 obtain rfl:=sj h
 exact k337 (tF q337 2 [] (oA 0 (ix23 (o:=.no) h4)<|oB 1 h2 k))
def e230Lao:Nat->(List Ent)->Int->(List Int)->Int->Int->Option (Bool)
 |0,_,_,_,_,_=>none
 |qq+1,p0,p1,p2,p3,v13=>
 if decide (v13<(List.length p2:Int))then
 gidx p2 v13>>=fun x2=>
 e337 qq p0 x2 p3>>=fun r4=>
 if r4 then
 gidx p0 x2>>=fun x7=>
 if x7.fam != p1 then
 none
 else
 if x7.place != v13 then
 none
 else
 e230Lao qq p0 p1 p2 p3 (w64 (v13+1))
 else
 none
 else
 some true
def e230(qq:Nat)(p0:List Ent)(p1:Int)(p2:List Int)(p3:Int):Option (Bool):=
 e230Lao qq p0 p1 p2 p3 0
def g230LaoE0(j:Nat->Value)(p0:List Ent)(p1:Int)(p2:List Int)(p3 v13:Int):=sp j 42 0 [(0,slv entL p0 .no),(1,ai p1),(3,ai p3),(11,slv intC p2 .no),(12,ai (List.length p2:Int)),(13,ai v13)]
def g230LaoS0(p0:List Ent)(p1:Int)(p2:List Int)(p3 v13:Int):LSt:=⟨[],0,[],0,[]⟩
abbrev K230 (p0:List Ent) (p1:Int) (p2:List Int) (p3:Int) (r:Bool) (C:Cf):Prop:=C 230 [] [slv entL p0 .no,ai p1,slv intC p2 .no,ai p3] (ab r) [] 0
theorem q230:Qf 230 Tryz.f230:=⟨Tryz.func230,by kernel_rfl⟩
theorem k230{p0 p1 p2 p3 r}(h:K230 p0 p1 p2 p3 r Ci):K230 p0 p1 p2 p3 r Ct:=⟨h,⟨⟨tv,dE _⟩,tv,⟨tv,dI _⟩,tv,tv⟩,forall_nil,tv,forall_nil⟩
theorem l230Lao:∀qq:Nat,(∀p0 p1 p2 p3 v13 r,e230Lao qq p0 p1 p2 p3 v13=some r->(∀j,Dl Tryz.prog 0 (inn (inn (rgt (lft (rgt (bod Tryz.f230)))))) (g230LaoE0 j p0 p1 p2 p3 v13) (g230LaoS0 p0 p1 p2 p3 v13) (frameQ Tryz.prog 0 (FinQ Tryz.prog 0 Tryz.f230 (ab r) [] 0) [.blk 0,.seq (rgt (rgt (bod Tryz.f230)))]))):=by
 intro qq
 induction qq with
 |zero=>
  exact fun _ _ _ _ _ _ h=>nn h
 |succ qq ih=>
  intro p0 p1 p2 p3 v13 r h
  rw[e230Lao]at h
  rcases spl h with⟨h1,h⟩|⟨h1,h⟩
  obtain⟨x2,h3,h⟩:=obind h
  obtain⟨r4,h5,h⟩:=obind h
  have k:=oA 0 (ix24 (o:=.no) h3)<|oB 0 h1 o0
  obtain⟨h6,h⟩:=spT h
  obtain⟨x7,h8,h⟩:=obind h
  have k:=oA 1 (ix23 (o:=.no) h8)<|oK 1 [] h6 (c337 h5) k
  obtain⟨h9,h⟩:=splF h
  have k:=oA 0 (ix23 (o:=.no) h8)<|oB 1 h9 k
  obtain⟨h10,h⟩:=splF h
  exact fun j=>lH 1 [] [] [] [0,1,3,11,12,13] (oD (dI p2)<|oD (dE p0)<|oB 1 h10 k) (ih _ _ _ _ _ _ h)
  obtain rfl:=sj h
  exact fun j=>lF 0 [] (oB 0 h1 o0)
theorem c230{qq p0 p1 p2 p3 r}(h:e230 qq p0 p1 p2 p3=some r):K230 p0 p1 p2 p3 r Ct:=by
 unfold e230 at h
 exact k230 (tH q230 1 [] [] [] [0,1,3,11,12,13] (oD (dI p2)<|oD (dE p0) o0) (l230Lao _ _ _ _ _ _ _ h))
def e97Lap(qq:Nat)(p1 v25:Int)(v7:List Tm)(vb1_0 vb1_1:Int)(vb1_2:List Tm):Option (List Tm×Tm×Int):=
 if decide (v25<p1)then
 none
 else
 some (v7,(Tm.mk vb1_0 vb1_1 vb1_2),0)
def e97(qq:Nat)(p0:Tm)(p1:Int):Option (List Tm×Tm×Int):=
 e73 qq p0>>=fun r1=>
 if r1 then
 if decide (p1<0)then
 none
 else
 if decide (p1>24)then
 none
 else
 e42 qq p0>>=fun r6=>
 e97Lap qq p1 0 [] r6.k r6.n r6.sub
 else
 none
def g97LapE0(j:Nat->Value)(p1 v25:Int)(v7:List Tm)(vb1_0 vb1_1:Int)(vb1_2:List Tm):=sp j 45 0 [(5,.mp 0 0),(7,slv tmCells v7 (.st 0 3)),(8,.mp 1 0),(24,ai p1),(25,ai v25)]
def g97LapS0(p1 v25:Int)(v7:List Tm)(vb1_0 vb1_1:Int)(vb1_2:List Tm):LSt:=⟨[(0,.cells [ai 0,ai 0,slv tmCells ([]:List Tm) .nl]),(1,.cells [ai vb1_0,ai vb1_1,slv tmCells vb1_2 .no])],2,[0],1,[]⟩
abbrev K97 (p0:Tm) (p1:Int) (r:List Tm×Tm×Int) (C:Cf):Prop:=C 97 [] [tmA p0,ai p1] (.tup [.sl (flat tmCells r.1) (List.length r.1) .no,tmA r.2.1,ai r.2.2]) [] 0
theorem q97:Qf 97 Tryz.f97:=⟨Tryz.func97,by kernel_rfl⟩
theorem k97{p0 p1 r}(h:K97 p0 p1 r Ci):K97 p0 p1 r Ct:=⟨h,⟨⟨tv,tv,⟨tv,dT _⟩,tv⟩,tv,tv⟩,forall_nil,⟨dT _,⟨tv,tv,dT _,tv⟩,tv,tv⟩,forall_nil⟩
theorem l97Lap(qq p1 v25 v7 vb1_0 vb1_1 vb1_2 r)(h:e97Lap qq p1 v25 v7 vb1_0 vb1_1 vb1_2=some r):(∀j,Dl Tryz.prog 0 (inn (inn (rgt (lft (rgt (rgt (rgt (rgt (bod Tryz.f97))))))))) (g97LapE0 j p1 v25 v7 vb1_0 vb1_1 vb1_2) (g97LapS0 p1 v25 v7 vb1_0 vb1_1 vb1_2) (frameQ Tryz.prog 0 (FinQ Tryz.prog 0 Tryz.f97 (.tup [.sl (flat tmCells r.1) (List.length r.1) .no,tmA r.2.1,ai r.2.2]) [] 0) [.blk 1,.seq (rgt (rgt (rgt (rgt (rgt (bod Tryz.f97))))))])):=by
 unfold e97Lap at h
 obtain⟨h8,h⟩:=splF h
 obtain rfl:=sj h
 exact fun j=>lF 2 [] (oD (dT vb1_2)<|oD (dT v7)<|oB 0 h8 o0)
theorem c97{qq p0 p1 r}(h:e97 qq p0 p1=some r):K97 p0 p1 r Ct:=by
 unfold e97 at h
 obtain⟨r1,h2,h⟩:=obind h
 obtain⟨h3,h⟩:=spT h
 have k:=oK 1 [] h3 (c73 h2) o0
 obtain⟨h4,h⟩:=splF h
 have k:=oB 1 h4 k
 obtain⟨h5,h⟩:=splF h
 obtain⟨r6,h7,h⟩:=obind h
 exact k97 (tH q97 1 [(none,7,3)] [1,2] [0] [5,7,8,24,25] (oD (dT ([]:List Tm))<|oD (dT r6.sub)<|oD (dT ([]:List Tm))<|oC 1 [] (c42 h7)<|oB 0 h5 k) (l97Lap qq _ _ _ _ _ _ _ h))
def e135(qq:Nat)(p0:List Ent)(p1:Int):Option (Bool):=
 gidx p0 p1>>=fun x1=>
 if decide (x1.pars<0)then
 none
 else
 if decide (x1.inds<0)then
 none
 else
 if decide (x1.pars>24)then
 none
 else
 if decide (x1.inds>(w64 (24-x1.pars)))then
 none
 else
 if x1.fam != 0 then
 none
 else
 if x1.place != 0 then
 none
 else
 e228 qq x1.body>>=fun r9=>
 if r9 then
 e97 qq x1.type (w64 (x1.pars+x1.inds))>>=fun r12=>
 if r12.2.2 != 0 then
 none
 else
 if r12.2.1.k != 2 then
 none
 else
 if r12.2.1.n != x1.level then
 none
 else
 if decide ((List.length x1.cons:Int)>16)then
 none
 else
 e229 qq x1.cons (w64 (p1+1))>>=fun r18=>
 if r18 then
 e230 qq p0 p1 x1.cons 2>>=fun r21=>
 if r21 then
 if (List.length x1.fields:Int)==0 then
 some true
 else
 none
 else
 none
 else
 none
 else
 none
abbrev K135 (p0:List Ent) (p1:Int) (r:Bool) (C:Cf):Prop:=C 135 [] [slv entL p0 .no,ai p1] (ab r) [] 0
theorem q135:Qf 135 Tryz.f135:=⟨Tryz.func135,by kernel_rfl⟩
theorem k135{p0 p1 r}(h:K135 p0 p1 r Ci):K135 p0 p1 r Ct:=⟨h,⟨⟨tv,dE _⟩,tv,tv⟩,forall_nil,tv,forall_nil⟩
theorem c135{qq p0 p1 r}(h:e135 qq p0 p1=some r):K135 p0 p1 r Ct:=by
 unfold e135 at h
 obtain⟨x1,h2,h⟩:=obind h
 have k:=oA 0 (ix23 (o:=.no) h2) o0
 obtain⟨h3,h⟩:=splF h
 have k:=oB 3 h3 k
 obtain⟨h4,h⟩:=splF h
 have k:=oB 1 h4 k
 obtain⟨h5,h⟩:=splF h
 have k:=oB 1 h5 k
 obtain⟨h6,h⟩:=splF h
 have k:=oB 3 h6 k
 obtain⟨h7,h⟩:=splF h
 have k:=oB 1 h7 k
 obtain⟨h8,h⟩:=splF h
 obtain⟨r9,h10,h⟩:=obind h
 have k:=oB 1 h8 k
 obtain⟨h11,h⟩:=spT h
 obtain⟨r12,h13,h⟩:=obind h
 have k:=oC 5 [] (c97 h13)<|oK 1 [] h11 (c228 h10) k
 obtain⟨h14,h⟩:=splF h
 have k:=oB 4 h14 k
 obtain⟨h15,h⟩:=splF h
 have k:=oB 1 h15 k
 obtain⟨h16,h⟩:=splF h
 have k:=oB 2 h16 k
 obtain⟨h17,h⟩:=splF h
 obtain⟨r18,h19,h⟩:=obind h
 have k:=oB 2 h17 k
 obtain⟨h20,h⟩:=spT h
 obtain⟨r21,h22,h⟩:=obind h
 have k:=oK 2 [] h20 (c229 h19) k
 obtain⟨h23,h⟩:=spT h
 have k:=oK 2 [] h23 (c230 h22) k
 obtain⟨h24,h⟩:=spT h
 obtain rfl:=sj h
 exact k135 (tF q135 0 [] (oB 3 h24 k))
def e231Laq(qq:Nat)(p0:Tm)(v5 vb2_0 vb2_1:Int)(vb2_2:List Tm):Option (List Tm×Tm×Int):=
 if vb2_0==3 then
 none
 else
 e97 qq p0 v5>>=fun r10=>
 some (r10.1,r10.2.1,r10.2.2)
def e231(qq:Nat)(p0:Tm):Option (List Tm×Tm×Int):=
 e231Laq qq p0 0 p0.k p0.n p0.sub
def g231LaqE0(j:Nat->Value)(p0:Tm)(v5 vb2_0 vb2_1:Int)(vb2_2:List Tm):=sp j 34 0 [(1,.mp 0 0),(3,.mp 1 0),(5,ai v5),(6,.mp 2 0)]
def g231LaqS0(p0:Tm)(v5 vb2_0 vb2_1:Int)(vb2_2:List Tm):LSt:=⟨[(0,.cells [ai p0.k,ai p0.n,slv tmCells p0.sub .no]),(1,.cells [ai 0,ai 0,slv tmCells ([]:List Tm) .nl]),(2,.cells [ai vb2_0,ai vb2_1,slv tmCells vb2_2 .no])],3,[],0,[]⟩
abbrev K231 (p0:Tm) (r:List Tm×Tm×Int) (C:Cf):Prop:=C 231 [] [tmA p0] (.tup [.sl (flat tmCells r.1) (List.length r.1) .no,tmA r.2.1,ai r.2.2]) [] 0
theorem q231:Qf 231 Tryz.f231:=⟨Tryz.func231,by kernel_rfl⟩
theorem k231{p0 r}(h:K231 p0 r Ci):K231 p0 r Ct:=⟨h,⟨⟨tv,tv,⟨tv,dT _⟩,tv⟩,tv⟩,forall_nil,⟨dT _,⟨tv,tv,dT _,tv⟩,tv,tv⟩,forall_nil⟩
theorem l231Laq(qq p0 v5 vb2_0 vb2_1 vb2_2 r)(h:e231Laq qq p0 v5 vb2_0 vb2_1 vb2_2=some r):(∀j,Dl Tryz.prog 0 (inn (inn (rgt (lft (rgt (rgt (bod Tryz.f231))))))) (g231LaqE0 j p0 v5 vb2_0 vb2_1 vb2_2) (g231LaqS0 p0 v5 vb2_0 vb2_1 vb2_2) (frameQ Tryz.prog 0 (FinQ Tryz.prog 0 Tryz.f231 (.tup [.sl (flat tmCells r.1) (List.length r.1) .no,tmA r.2.1,ai r.2.2]) [] 0) [.blk 0,.seq (rgt (rgt (rgt (bod Tryz.f231))))])):=by
 unfold e231Laq at h
 obtain⟨h1,h⟩:=splF h
 obtain⟨r10,h11,h⟩:=obind h
 obtain rfl:=sj h
 exact fun j=>lF 4 [] (oD (dT r10.2.1.sub)<|oD (dT r10.1)<|oC 1 [] (c97 h11)<|oB 1 h1 o0)
theorem c231{qq p0 r}(h:e231 qq p0=some r):K231 p0 r Ct:=by
 unfold e231 at h
 exact k231 (tH q231 2 [] [0,1,2] [] [1,3,5,6] (oD (dT p0.sub)<|oD (dT ([]:List Tm))<|oD (dT p0.sub) o0) (l231Laq qq _ _ _ _ _ _ h))
def e232(qq:Nat)(p0:List Ent)(p1:Int):Option (Bool):=
 gidx p0 p1>>=fun x1=>
 e337 qq p0 x1.fam 1>>=fun r3=>
 if r3 then
 if decide (x1.fam≥p1)then
 none
 else
 gidx p0 x1.fam>>=fun x7=>
 if x1.pars != x7.pars then
 none
 else
 e228 qq x1.body>>=fun r10=>
 if r10 then
 if x1.inds != 0 then
 none
 else
 if x1.level != 0 then
 none
 else
 if decide ((w64 ((List.length x1.cons:Int)+(List.length x1.fields:Int)))>0)then
 none
 else
 if x1.kind==4 then
 none
 else
 if decide (x1.place≥0)then
 if decide (x1.place<(List.length x7.cons:Int))then
 gidx x7.cons x1.place>>=fun x23=>
 some (x23==p1)
 else
 none
 else
 none
 else
 none
 else
 none
abbrev K232 (p0:List Ent) (p1:Int) (r:Bool) (C:Cf):Prop:=C 232 [] [slv entL p0 .no,ai p1] (ab r) [] 0
theorem q232:Qf 232 Tryz.f232:=⟨Tryz.func232,by kernel_rfl⟩
theorem k232{p0 p1 r}(h:K232 p0 p1 r Ci):K232 p0 p1 r Ct:=⟨h,⟨⟨tv,dE _⟩,tv,tv⟩,forall_nil,tv,forall_nil⟩
theorem c232{qq p0 p1 r}(h:e232 qq p0 p1=some r):K232 p0 p1 r Ct:=by
 unfold e232 at h
 obtain⟨x1,h2,h⟩:=obind h
 obtain⟨r3,h4,h⟩:=obind h
 have k:=oA 0 (ix23 (o:=.no) h2) o0
 obtain⟨h5,h⟩:=spT h
 have k:=oK 3 [] h5 (c337 h4) k
 obtain⟨h6,h⟩:=splF h
 obtain⟨x7,h8,h⟩:=obind h
 have k:=oA 2 (ix23 (o:=.no) h8)<|oB 2 h6 k
 obtain⟨h9,h⟩:=splF h
 obtain⟨r10,h11,h⟩:=obind h
 have k:=oB 1 h9 k
 obtain⟨h12,h⟩:=spT h
 have k:=oK 1 [] h12 (c228 h11) k
 obtain⟨h13,h⟩:=splF h
 have k:=oB 2 h13 k
 obtain⟨h14,h⟩:=splF h
 have k:=oB 1 h14 k
 obtain⟨h15,h⟩:=splF h
 have k:=oA 1 (ix23 (o:=.no) h8)<|oB 5 h15 k
 obtain⟨h16,h⟩:=splF h
 have k:=oB 2 h16 k
 obtain⟨h21,h⟩:=spT h
 have k:=oB 1 h21 k
 obtain⟨h22,h⟩:=spT h
 obtain⟨x23,h24,h⟩:=obind h
 obtain rfl:=sj h
 exact k232 (tF q232 2 [] (oA 1 (ix24 (o:=.no) h24)<|oB 2 h22 k))
theorem spA1(j:Nat->Value)(ls:List L3)(x:Tm)(u:List AV)(vs:List Value)(o:Own):krun Tryz.prog prim 3000 (.run (inn (inn (lft (rgt (rgt (rgt (bod Tryz.f219)))))))) [] [.val (j 0),.mp 0 0,.mp 1 0,.val (j 3),.sl (flat c3 ls) ls.length (.st 0 3),.mp 2 0,.val (j 6),.val (j 7),.val (j 8),.val (j 9),.val (j 10),.val (j 11),.val (j 12),.val (j 13),.val (j 14),.val (j 15),.val (j 16),.val (j 17),.val (j 18),.val (j 19),.val (j 20),.val (j 21),.val (j 22),.val (j 23),.val (j 24),.val (j 25),.val (j 26),.val (j 27),.val (j 28),.val (j 29),.val (j 30),.val (j 31),.val (j 32),.val (j 33),.val (j 34)] ⟨[(0,.cells u),(1,.cells [ai 0,ai 0,.sl [] 0 .nl]),(2,.cells [ai x.k,ai x.n,.sl (vs.map .val) x.sub.length o])],3,[0],1,[]⟩ [.no,.bit false]=some (.fin (.exit 0),[.val (j 0),.mp 0 0,.mp 1 0,.val (j 3),.sl (flat c3 ls) ls.length (.st 0 3),.mp 2 0,.val (j 6),.mp 2 0,ai x.k,ab false,ab false,.val undef,.val undef,.val undef,.val undef,ab false,.val (j 16),.val (j 17),.val (j 18),.val (j 19),.val (j 20),.val (j 21),.val (j 22),.val (j 23),.val (j 24),.val (j 25),.val (j 26),.val (j 27),.val (j 28),.val (j 29),.val (j 30),.val (j 31),.val (j 32),.val (j 33),.val (j 34)],⟨[(0,.cells u),(1,.cells [ai 0,ai 0,.sl [] 0 .nl]),(2,.cells [ai x.k,ai x.n,.sl (vs.map .val) x.sub.length o])],3,[0],1,[]⟩,[],[.bit (x.k==5) false]):=by kernel_rfl
theorem spA2(j:Nat->Value)(ls:List L3)(x:Tm)(u:List AV)(vs:List Value)(o:Own):(xops Tryz.prog prim (regOps (lft (rgt (rgt (rgt (rgt (bod Tryz.f219))))))) ((regOps (lft (rgt (rgt (rgt (rgt (bod Tryz.f219))))))).toList.take 1) 0 [.val (j 0),.mp 0 0,.mp 1 0,.val (j 3),.sl (flat c3 ls) ls.length (.st 0 3),.mp 2 0,.val (j 6),.mp 2 0,ai x.k,ab false,ab false,.val undef,.val undef,.val undef,.val undef,ab false,.val (j 16),.val (j 17),.val (j 18),.val (j 19),.val (j 20),.val (j 21),.val (j 22),.val (j 23),.val (j 24),.val (j 25),.val (j 26),.val (j 27),.val (j 28),.val (j 29),.val (j 30),.val (j 31),.val (j 32),.val (j 33),.val (j 34)] ⟨[(0,.cells u),(1,.cells [ai 0,ai 0,.sl [] 0 .nl]),(2,.cells [ai x.k,ai x.n,.sl (vs.map .val) x.sub.length o])],3,[0],1,[]⟩ []).map Prod.snd=some ([.val (j 0),.mp 0 0,.mp 1 0,.val (j 3),.sl (flat c3 ls) ls.length (.st 0 3),.mp 2 0,.val (j 6),.mp 2 0,ai x.k,ab false,ab false,.val undef,.val undef,.val undef,.val undef,ab false,.val (j 16),.val (j 17),.val (j 18),.val (j 19),.val (j 20),.val (j 21),.val (j 22),.val (j 23),.val (j 24),.val (j 25),.val (j 26),.val (j 27),.val (j 28),.val (j 29),.val (j 30),.sl (flat c3 ls) ls.length (.st 0 3),.val (j 32),.val (j 33),.val (j 34)],⟨[(0,.cells u),(1,.cells [ai 0,ai 0,.sl [] 0 .nl]),(2,.cells [ai x.k,ai x.n,.sl (vs.map .val) x.sub.length o])],3,[0],1,[]⟩,[],[]):=by kernel_rfl
theorem spA3(j i:Nat->Value)(ls:List L3)(l:List Tm)(x:Tm)(u:List AV)(vs:List Value)(o:Own):(xops Tryz.prog prim (regOps (lft (rgt (rgt (rgt (rgt (bod Tryz.f219))))))) ((regOps (lft (rgt (rgt (rgt (rgt (bod Tryz.f219))))))).toList.drop 2) 2 (eset (tells [(4,.sl (flat tmCells l.reverse) l.length .no)] (mutEnv [1,2] i [.val (j 0),.mp 0 0,.mp 1 0,.val (j 3),.sl (flat c3 ls) ls.length (.st 0 3),.mp 2 0,.val (j 6),.mp 2 0,ai x.k,ab false,ab false,.val undef,.val undef,.val undef,.val undef,ab false,.val (j 16),.val (j 17),.val (j 18),.val (j 19),.val (j 20),.val (j 21),.val (j 22),.val (j 23),.val (j 24),.val (j 25),.val (j 26),.val (j 27),.val (j 28),.val (j 29),.val (j 30),.sl (flat c3 ls) ls.length (.st 0 3),.val (j 32),.val (j 33),.val (j 34)] 0)) (some 32) (.tup [])) (pickSt [1,2] ⟨[(0,.cells u),(1,.cells [ai 0,ai 0,.sl [] 0 .nl]),(2,.cells [ai x.k,ai x.n,.sl (vs.map .val) x.sub.length o])],3,[0],1,[]⟩) []).map Prod.snd=some ([.val (j 0),.val (i 1),.mp 1 0,.val (j 3),.sl (flat tmCells l.reverse) l.length .no,.mp 2 0,.val (j 6),.mp 2 0,ai x.k,ab false,ab false,.val undef,.val undef,.val undef,.val undef,ab false,.val (j 16),.val (j 17),.val (j 18),.val (j 19),.val (j 20),.val (j 21),.val (j 22),.val (j 23),.val (j 24),.val (j 25),.val (j 26),.val (j 27),.val (j 28),.val (j 29),.val (j 30),.val (i 31),.tup [],.val (j 33),.val (j 34)],⟨[(1,.cells [ai 0,ai 0,.sl [] 0 .nl]),(2,.cells [ai x.k,ai x.n,.sl (vs.map .val) x.sub.length o])],3,[],0,[]⟩,[],[]):=by kernel_rfl
theorem spA4(j i:Nat->Value)(l:List Tm)(x:Tm)(vs:List Value)(o:Own):kfin Tryz.prog prim 0 Tryz.f219 3000 (.run (rgt (rgt (rgt (rgt (rgt (bod Tryz.f219))))))) [] [.val (j 0),.val (i 1),.mp 1 0,.val (j 3),.sl (flat tmCells l.reverse) l.length .no,.mp 2 0,.val (j 6),.mp 2 0,ai x.k,ab false,ab false,.val undef,.val undef,.val undef,.val undef,ab false,.val (j 16),.val (j 17),.val (j 18),.val (j 19),.val (j 20),.val (j 21),.val (j 22),.val (j 23),.val (j 24),.val (j 25),.val (j 26),.val (j 27),.val (j 28),.val (j 29),.val (j 30),.val (i 31),.tup [],.val (j 33),.val (j 34)] ⟨[(1,.cells [ai 0,ai 0,.sl [] 0 .nl]),(2,.cells [ai x.k,ai x.n,.sl (vs.map .val) x.sub.length o])],3,[],0,[]⟩ [.no,.no] [] [] [] false=some (.tup [.agg [ai x.k,ai x.n,.sl (vs.map .val) x.sub.length .no],.sl (flat tmCells l.reverse) l.length .no],[],[.data (vs.map .val),.data (flat tmCells l.reverse)]):=by kernel_rfl
theorem spB1(j:Nat->Value)(ls:List L3)(x:Tm)(u:List AV)(vs:List Value)(o:Own):krun Tryz.prog prim 3000 (.run (inn (inn (lft (rgt (rgt (rgt (bod Tryz.f219)))))))) [] [.val (j 0),.mp 0 0,.mp 1 0,.val (j 3),.sl (flat c3 ls) ls.length (.st 0 3),.mp 2 0,.val (j 6),.val (j 7),.val (j 8),.val (j 9),.val (j 10),.val (j 11),.val (j 12),.val (j 13),.val (j 14),.val (j 15),.val (j 16),.val (j 17),.val (j 18),.val (j 19),.val (j 20),.val (j 21),.val (j 22),.val (j 23),.val (j 24),.val (j 25),.val (j 26),.val (j 27),.val (j 28),.val (j 29),.val (j 30),.val (j 31),.val (j 32),.val (j 33),.val (j 34)] ⟨[(0,.cells u),(1,.cells [ai 0,ai 0,.sl [] 0 .nl]),(2,.cells [ai x.k,ai x.n,.sl (vs.map .val) x.sub.length o])],3,[0],1,[]⟩ [.no,.bit true,.no,.no,.bit false]=some (.fin (.exit 0),[.val (j 0),.mp 0 0,.mp 1 0,.val (j 3),.sl (flat c3 ls) ls.length (.st 0 3),.mp 2 0,.val (j 6),.mp 2 0,ai x.k,ab true,ab true,.mp 2 2,.sl (vs.map .val) x.sub.length o,ai (x.sub.length:Int),ab false,ab false,.val (j 16),.val (j 17),.val (j 18),.val (j 19),.val (j 20),.val (j 21),.val (j 22),.val (j 23),.val (j 24),.val (j 25),.val (j 26),.val (j 27),.val (j 28),.val (j 29),.val (j 30),.val (j 31),.val (j 32),.val (j 33),.val (j 34)],⟨[(0,.cells u),(1,.cells [ai 0,ai 0,.sl [] 0 .nl]),(2,.cells [ai x.k,ai x.n,.sl (vs.map .val) x.sub.length o])],3,[0],1,[]⟩,[],[.bit (x.k==5) true,.bit ((x.sub.length:Int)==2) false]):=by kernel_rfl
theorem spB2(j:Nat->Value)(ls:List L3)(x:Tm)(u:List AV)(vs:List Value)(o:Own):(xops Tryz.prog prim (regOps (lft (rgt (rgt (rgt (rgt (bod Tryz.f219))))))) ((regOps (lft (rgt (rgt (rgt (rgt (bod Tryz.f219))))))).toList.take 1) 0 [.val (j 0),.mp 0 0,.mp 1 0,.val (j 3),.sl (flat c3 ls) ls.length (.st 0 3),.mp 2 0,.val (j 6),.mp 2 0,ai x.k,ab true,ab true,.mp 2 2,.sl (vs.map .val) x.sub.length o,ai (x.sub.length:Int),ab false,ab false,.val (j 16),.val (j 17),.val (j 18),.val (j 19),.val (j 20),.val (j 21),.val (j 22),.val (j 23),.val (j 24),.val (j 25),.val (j 26),.val (j 27),.val (j 28),.val (j 29),.val (j 30),.val (j 31),.val (j 32),.val (j 33),.val (j 34)] ⟨[(0,.cells u),(1,.cells [ai 0,ai 0,.sl [] 0 .nl]),(2,.cells [ai x.k,ai x.n,.sl (vs.map .val) x.sub.length o])],3,[0],1,[]⟩ []).map Prod.snd=some ([.val (j 0),.mp 0 0,.mp 1 0,.val (j 3),.sl (flat c3 ls) ls.length (.st 0 3),.mp 2 0,.val (j 6),.mp 2 0,ai x.k,ab true,ab true,.mp 2 2,.sl (vs.map .val) x.sub.length o,ai (x.sub.length:Int),ab false,ab false,.val (j 16),.val (j 17),.val (j 18),.val (j 19),.val (j 20),.val (j 21),.val (j 22),.val (j 23),.val (j 24),.val (j 25),.val (j 26),.val (j 27),.val (j 28),.val (j 29),.val (j 30),.sl (flat c3 ls) ls.length (.st 0 3),.val (j 32),.val (j 33),.val (j 34)],⟨[(0,.cells u),(1,.cells [ai 0,ai 0,.sl [] 0 .nl]),(2,.cells [ai x.k,ai x.n,.sl (vs.map .val) x.sub.length o])],3,[0],1,[]⟩,[],[]):=by kernel_rfl
theorem spB3(j i:Nat->Value)(ls:List L3)(l:List Tm)(x:Tm)(u:List AV)(vs:List Value)(o:Own):(xops Tryz.prog prim (regOps (lft (rgt (rgt (rgt (rgt (bod Tryz.f219))))))) ((regOps (lft (rgt (rgt (rgt (rgt (bod Tryz.f219))))))).toList.drop 2) 2 (eset (tells [(4,.sl (flat tmCells l.reverse) l.length .no)] (mutEnv [1,2] i [.val (j 0),.mp 0 0,.mp 1 0,.val (j 3),.sl (flat c3 ls) ls.length (.st 0 3),.mp 2 0,.val (j 6),.mp 2 0,ai x.k,ab true,ab true,.mp 2 2,.sl (vs.map .val) x.sub.length o,ai (x.sub.length:Int),ab false,ab false,.val (j 16),.val (j 17),.val (j 18),.val (j 19),.val (j 20),.val (j 21),.val (j 22),.val (j 23),.val (j 24),.val (j 25),.val (j 26),.val (j 27),.val (j 28),.val (j 29),.val (j 30),.sl (flat c3 ls) ls.length (.st 0 3),.val (j 32),.val (j 33),.val (j 34)] 0)) (some 32) (.tup [])) (pickSt [1,2] ⟨[(0,.cells u),(1,.cells [ai 0,ai 0,.sl [] 0 .nl]),(2,.cells [ai x.k,ai x.n,.sl (vs.map .val) x.sub.length o])],3,[0],1,[]⟩) []).map Prod.snd=some ([.val (j 0),.val (i 1),.mp 1 0,.val (j 3),.sl (flat tmCells l.reverse) l.length .no,.mp 2 0,.val (j 6),.mp 2 0,ai x.k,ab true,ab true,.mp 2 2,.val (i 12),ai (x.sub.length:Int),ab false,ab false,.val (j 16),.val (j 17),.val (j 18),.val (j 19),.val (j 20),.val (j 21),.val (j 22),.val (j 23),.val (j 24),.val (j 25),.val (j 26),.val (j 27),.val (j 28),.val (j 29),.val (j 30),.val (i 31),.tup [],.val (j 33),.val (j 34)],⟨[(1,.cells [ai 0,ai 0,.sl [] 0 .nl]),(2,.cells [ai x.k,ai x.n,.sl (vs.map .val) x.sub.length o])],3,[],0,[]⟩,[],[]):=by kernel_rfl
theorem spB4(j i:Nat->Value)(l:List Tm)(x:Tm)(vs:List Value)(o:Own):kfin Tryz.prog prim 0 Tryz.f219 3000 (.run (rgt (rgt (rgt (rgt (rgt (bod Tryz.f219))))))) [] [.val (j 0),.val (i 1),.mp 1 0,.val (j 3),.sl (flat tmCells l.reverse) l.length .no,.mp 2 0,.val (j 6),.mp 2 0,ai x.k,ab true,ab true,.mp 2 2,.val (i 12),ai (x.sub.length:Int),ab false,ab false,.val (j 16),.val (j 17),.val (j 18),.val (j 19),.val (j 20),.val (j 21),.val (j 22),.val (j 23),.val (j 24),.val (j 25),.val (j 26),.val (j 27),.val (j 28),.val (j 29),.val (j 30),.val (i 31),.tup [],.val (j 33),.val (j 34)] ⟨[(1,.cells [ai 0,ai 0,.sl [] 0 .nl]),(2,.cells [ai x.k,ai x.n,.sl (vs.map .val) x.sub.length o])],3,[],0,[]⟩ [.no,.no] [] [] [] false=some (.tup [.agg [ai x.k,ai x.n,.sl (vs.map .val) x.sub.length .no],.sl (flat tmCells l.reverse) l.length .no],[],[.data (vs.map .val),.data (flat tmCells l.reverse)]):=by kernel_rfl
theorem spC(j:Nat->Value)(p0:Tm)(q0:Option Addr×Nat×Nat)(ls:List L3)(x:Tm)(vs:List Value)(o:Own):kfin Tryz.prog prim 0 Tryz.f219 3000 (.run (inn (inn (lft (rgt (rgt (rgt (bod Tryz.f219)))))))) [.loop (inn (inn (lft (rgt (rgt (rgt (bod Tryz.f219))))))),.blk 0,.seq (rgt (rgt (rgt (rgt (bod Tryz.f219)))))] [.val (j 0),.mp 0 0,.mp 1 0,.val (j 3),.sl (flat c3 ls) ls.length (.st 0 3),.mp 2 0,.val (j 6),.val (j 7),.val (j 8),.val (j 9),.val (j 10),.val (j 11),.val (j 12),.val (j 13),.val (j 14),.val (j 15),.val (j 16),.val (j 17),.val (j 18),.val (j 19),.val (j 20),.val (j 21),.val (j 22),.val (j 23),.val (j 24),.val (j 25),.val (j 26),.val (j 27),.val (j 28),.val (j 29),.val (j 30),.val (j 31),.val (j 32),.val (j 33),.val (j 34)] ⟨[(0,.cells [.val (.int .i64 p0.k),.val (.int .i64 p0.n),.val (.slice q0.1 q0.2.1 q0.2.2)]),(1,.cells [ai 0,ai 0,.sl [] 0 .nl]),(2,.cells [ai x.k,ai x.n,.sl (vs.map .val) x.sub.length o])],3,[0],1,[]⟩ [.no,.bit true,.no,.no,.bit true,.no,.bit true,.no,.no] [] [] [] false=some (.tup [.agg [.val (.int .i64 p0.k),.val (.int .i64 p0.n),.val (.slice q0.1 q0.2.1 q0.2.2)],.sl [] 0 .no],[],[.bit (x.k==5) true,.bit ((x.sub.length:Int)==2) true,.bit (decide ((ls.length:Int)≥8192)) true,.data []]):=by kernel_rfl
theorem spD(i j:Nat->Value)(k n:Int)(a b:Tm)(qa qb:Option Addr×Nat×Nat)(u0 u1 u2:Value)(ls ls2:List L3)(o:Own):khead Tryz.prog prim 0 3000 (.run (inn (inn (lft (rgt (rgt (rgt (bod Tryz.f219)))))))) [.loop (inn (inn (lft (rgt (rgt (rgt (bod Tryz.f219))))))),.blk 0,.seq (rgt (rgt (rgt (rgt (bod Tryz.f219)))))] [.val (j 0),.mp 0 0,.mp 1 0,.val (j 3),.sl (flat c3 ls) ls.length (.st 0 3),.mp 2 0,.val (j 6),.val (j 7),.val (j 8),.val (j 9),.val (j 10),.val (j 11),.val (j 12),.val (j 13),.val (j 14),.val (j 15),.val (j 16),.val (j 17),.val (j 18),.val (j 19),.val (j 20),.val (j 21),.val (j 22),.val (j 23),.val (j 24),.val (j 25),.val (j 26),.val (j 27),.val (j 28),.val (j 29),.val (j 30),.val (j 31),.val (j 32),.val (j 33),.val (j 34)] ⟨[(0,.cells [.val u0,.val u1,.val u2]),(1,.cells [ai 0,ai 0,.sl [] 0 .nl]),(2,.cells [ai k,ai n,.sl [.val (.int .i64 a.k),.val (.int .i64 a.n),.val (.slice qa.1 qa.2.1 qa.2.2),.val (.int .i64 b.k),.val (.int .i64 b.n),.val (.slice qb.1 qb.2.1 qb.2.2)] 2 o])],3,[0],1,[]⟩ [.no,.bit true,.no,.no,.bit true,.no,.bit false,.no,.no,.no,.no,.app (flat c3 ls2) ls2.length 3 false,.no,.no,.no,.no] [] [0,1,2] [1] [1,2,4,5] i=some (inn (inn (lft (rgt (rgt (rgt (bod Tryz.f219)))))),[.blk 0,.seq (rgt (rgt (rgt (rgt (bod Tryz.f219)))))],[.val (i 0),.mp 0 0,.mp 1 0,.val (i 3),.sl (flat c3 ls2) ls2.length (.st 0 3),.mp 2 0,.val (i 6),.val (i 7),.val (i 8),.val (i 9),.val (i 10),.val (i 11),.val (i 12),.val (i 13),.val (i 14),.val (i 15),.val (i 16),.val (i 17),.val (i 18),.val (i 19),.val (i 20),.val (i 21),.val (i 22),.val (i 23),.val (i 24),.val (i 25),.val (i 26),.val (i 27),.val (i 28),.val (i 29),.val (i 30),.val (i 31),.val (i 32),.val (i 33),.val (i 34)],⟨[(0,.cells [.val u0,.val u1,.val u2]),(1,.cells [ai 0,ai 0,.sl [] 0 .nl]),(2,.cells [.val (.int .i64 a.k),.val (.int .i64 a.n),.val (.slice qa.1 qa.2.1 qa.2.2)])],3,[0],1,[]⟩,[.bit (k==5) true,.bit ((2:Int)==2) true,.bit (decide ((ls.length:Int)≥8192)) false,.app 78 78 (flat c3 ls) [.val (.int .i64 b.k),.val (.int .i64 b.n),.val (.slice qb.1 qb.2.1 qb.2.2)] (flat c3 ls2) ls.length 1 ls2.length 3 false,.data [],.data (flat c3 ls2)]):=by kernel_rfl
theorem spE(i:Nat->Value)(u0 u1:Int)(u2:Option Addr×Nat×Nat):khead Tryz.prog prim 0 3000 (.run (bod Tryz.f219)) [] ([.agg [.val (.int .i64 u0),.val (.int .i64 u1),.val (.slice u2.1 u2.2.1 u2.2.2)]]++List.replicate (Tryz.f219.ntmps-1) (.val undef)) (st0 []) [.no,.no] [(none,4,3)] [0,1,2] [0] [1,2,4,5] i=some (inn (inn (lft (rgt (rgt (rgt (bod Tryz.f219)))))),[.blk 0,.seq (rgt (rgt (rgt (rgt (bod Tryz.f219)))))],[.val (i 0),.mp 0 0,.mp 1 0,.val (i 3),.sl [] 0 (.st 0 3),.mp 2 0,.val (i 6),.val (i 7),.val (i 8),.val (i 9),.val (i 10),.val (i 11),.val (i 12),.val (i 13),.val (i 14),.val (i 15),.val (i 16),.val (i 17),.val (i 18),.val (i 19),.val (i 20),.val (i 21),.val (i 22),.val (i 23),.val (i 24),.val (i 25),.val (i 26),.val (i 27),.val (i 28),.val (i 29),.val (i 30),.val (i 31),.val (i 32),.val (i 33),.val (i 34)],⟨[(0,.cells [.val (.int .i64 u0),.val (.int .i64 u1),.val (.slice u2.1 u2.2.1 u2.2.2)]),(1,.cells [ai 0,ai 0,.sl [] 0 .nl]),(2,.cells [.val (.int .i64 u0),.val (.int .i64 u1),.val (.slice u2.1 u2.2.1 u2.2.2)])],3,[0],1,[]⟩,[.data [],.data []]):=by kernel_rfl
def sv(x:Tm)(q:Option Addr×Nat×Nat):List Value:=[.int .i64 x.k,.int .i64 x.n,.slice q.1 q.2.1 q.2.2]
def sv3(x:Tm)(q:Option Addr×Nat×Nat):L3:=⟨.int .i64 x.k,.int .i64 x.n,.slice q.1 q.2.1 q.2.2,rfl,rfl,rfl⟩
theorem VL.split{G:Gh}{w:World}:∀(cs bs:List AV) (us:List Value),VL G w (cs++bs) us->∃u1 u2,us=u1++u2∧VL G w cs u1∧VL G w bs u2
 | [],bs,us,h=>⟨[],us,rfl,by simp only[VL],h⟩
 |a::cs,bs,[],h=>by simp only[List.cons_append,VL]at h
 |a::cs,bs,u::us,h=>by
  simp only[List.cons_append,VL]at h
  obtain⟨u1,u2,rfl,h1,h2⟩:=VL.split cs bs us h.2
  exact⟨u::u1,u2,rfl,by simp only[VL];exact⟨h.1,h1⟩,h2⟩
theorem sv_of{G:Gh}{w:World}{x:Tm}{us:List Value}(h:VL G w (tmL x) us):∃q,us=sv x q:=by
 unfold tmL at h
 match us,h with
 | [],h=>simp only[VL]at h
 | [_],h=>simp only[VL,and_false]at h
 | [_,_],h=>simp only[VL,and_false]at h
 | [u0,u1,u2],h=>
  simp only[VL,and_true]at h
  obtain⟨h0,h1,h2⟩:=h
  simp only[V]at h0 h1 h2
  obtain⟨cap,_,⟨_,_,_,h,_⟩|⟨b,off,h,_⟩⟩:=h2
  ·obtain⟨p,h⟩:∃p,u2 = .slice p 0 0:=⟨_,h⟩
   exact⟨(p,0,0),by simp[sv,h0,h1,h]⟩
  ·exact⟨(some ⟨b,off,none⟩,x.sub.length,cap),by simp[sv,h0,h1,h]⟩
 |_::_::_::_::_,h=>simp only[VL,and_false]at h
theorem VC.lit{G G':Gh}{w w':World}(b:Nat)(hL:∀o,G.L b o->G'.L b o)(hc:∀o,w'.cell? ⟨b,o,none⟩=w.cell? ⟨b,o,none⟩):∀(vs:List Value) (off:Nat),VC G w (vs.map .val) b off->VC G' w' (vs.map .val) b off
 | [],_,_=>by simp only[List.map_nil,VC]
 |v::vs,off,h=>by
  simp only[List.map_cons,VC]at h ⊢
  obtain⟨h1,⟨u,h2,h3⟩,h4⟩:=h
  exact⟨hL _ h1,⟨u,(hc _).trans h2,by simpa only[V]using h3⟩,VC.lit b hL hc vs (off+1) h4⟩
theorem relit{G:Gh}{w:World}{vs:List Value}{n:Nat}{o:Own}{u:Value}{es:List AV}(h:V G w (.sl (vs.map .val) n o) u)(he:VL G w es vs):V G w (.sl es n .no) u:=by
 simp only[V]at h ⊢
 obtain⟨cap,hc,⟨h1,h2,h3,h4,_⟩|⟨b,off,h1,h2,_⟩⟩:=h
 ·have hv:vs=[]:=by simpa using h1
  subst hv
  have:=VL.length _ _ he
  exact⟨cap,hc,.inl ⟨List.length_eq_zero_iff.1 this.symm,h2,h3,h4,trivial⟩⟩
 ·refine⟨cap,hc,.inr ⟨b,off,h1,?_,trivial⟩⟩
  obtain⟨us,q1,q2⟩:=VC.cells _ _ _ h2
  have:=VL.litEq _ _ q1
  subst this
  exact VC.of_cells es us b off he (fun i hi=>(VC.cell _ _ _ i (.val us[i]) h2 (by simp[hi])).1) q2
theorem open_tm{na:Nb}{G0:Gh}{w:World}(hB:Base na G0){x:Tm}{q:Option Addr×Nat×Nat}(h:VL G0 w (tmL x) (sv x q)) :
  ∃(vs:List Value) (o:Own),VL G0 w (flat tmCells x.sub) vs∧VL G0 w [ai x.k,ai x.n,.sl (vs.map .val) x.sub.length o] (sv x q)∧Blk.lit (.cells [ai x.k,ai x.n,.sl (vs.map .val) x.sub.length o]):=by
 unfold tmL sv at h
 simp only[VL,and_true]at h
 obtain⟨_,_,h2⟩:=h
 have key:∃(vs:List Value) (o:Own),VL G0 w (flat tmCells x.sub) vs∧V G0 w (.sl (vs.map .val) x.sub.length o) (.slice q.1 q.2.1 q.2.2) ∧
   ∀(G G':Gh) (w w':World) (u:Value),G'.F=G.F->(∀b o,G.F b->G.L b o->G'.L b o)->(∀b o,G.F b->w'.cell? ⟨b,o,none⟩=w.cell? ⟨b,o,none⟩)->V G w (.sl (vs.map .val) x.sub.length o) u->V G' w' (.sl (vs.map .val) x.sub.length o) u:=by
  simp only[V]at h2
  obtain⟨cap,hc,⟨h1,h2,h3,h4,_⟩|⟨b,off,h1,h2,_⟩⟩:=h2
  ·refine⟨[],.no,by rw[h1];simp only[VL],?_,?_⟩
   ·simp only[V];exact⟨cap,hc,.inl ⟨rfl,h2,h3,h4,trivial⟩⟩
   ·intro G G' w w' u _ _ _ hu
    rw[h2]at hu ⊢
    exact V.none hu
  ·obtain⟨vs,q1,q2⟩:=VC.cells _ _ _ h2
   have hL:∀i,i<vs.length->G0.L b (off+i):=by
    intro i hi
    have hl:=VL.length _ _ q1
    exact(VC.cell _ _ _ i ((flat tmCells x.sub)[i]'(by omega)) h2 (by rw[List.getElem?_eq_getElem])).1
   have hcl:VC G0 w (vs.map .val) b off:=VC.of_cells _ vs b off (VL.lits vs) hL q2
   by_cases hs:vs=[]
   ·subst hs
    have hl:=VL.length _ _ q1
    have hfl:=flat_len codecT.len x.sub
    have h0:x.sub.length=0:=by simp at hl;omega
    refine⟨[],.no,q1,?_,?_⟩
    ·simp only[V];exact⟨cap,hc,.inr ⟨b,off,h1,hcl,trivial⟩⟩
    ·intro G G' w w' u _ _ _ hu
     rw[h0]at hu ⊢
     exact V.none hu
   ·have hF:G0.F b:=hB.LF b (off+0) (hL 0 (List.length_pos_iff.2 hs))
    refine⟨vs,.fr,q1,?_,?_⟩
    ·simp only[V];exact⟨cap,hc,.inr ⟨b,off,h1,hcl,hF⟩⟩
    ·intro G G' w w' u e1 e2 e3 hu
     simp only[V]at hu ⊢
     obtain⟨cap',hc',⟨p1,p2,p3,p4,_⟩|⟨b',off',p1,p2,p3⟩⟩:=hu
     ·exact⟨cap',hc',.inl ⟨p1,p2,p3,p4,trivial⟩⟩
     ·have p3':G.F b':=p3
      exact⟨cap',hc',.inr ⟨b',off',p1,VC.lit b' (fun o h=>e2 b' o p3' h) (fun o=>e3 b' o p3') vs off' p2,by show G'.F b';rw[e1];exact p3'⟩⟩
 obtain⟨vs,o,k1,k2,k3⟩:=key
 refine⟨vs,o,k1,?_,?_⟩
 ·simp only[sv,VL,V];simp only[V]at k2;exact⟨trivial,trivial,k2,trivial⟩
 ·intro G G' w w' us e1 e2 e3 hu
  match us,hu with
  | [],hu=>simp only[VL]at hu
  | [_],hu=>simp only[VL,and_false]at hu
  | [_,_],hu=>simp only[VL,and_false]at hu
  | [u0,u1,u2],hu=>
   simp only[VL,and_true]at hu ⊢
   exact⟨by simpa only[V]using hu.1,by simpa only[V]using hu.2.1,k3 G G' w w' u2 e1 e2 e3 hu.2.2⟩
  |_::_::_::_::_,hu=>simp only[VL,and_false]at hu
theorem zlit:Blk.lit (.cells [ai 0,ai 0,.sl [] 0 .nl]):=by
 intro G G' w w' us e1 e2 e3 hu
 match us,hu with
 | [],hu=>simp only[VL]at hu
 | [_],hu=>simp only[VL,and_false]at hu
 | [_,_],hu=>simp only[VL,and_false]at hu
 | [u0,u1,u2],hu=>
  simp only[VL,and_true]at hu ⊢
  refine⟨by simpa only[V]using hu.1,by simpa only[V]using hu.2.1,?_⟩
  have:=hu.2.2
  simp only[V]at this ⊢
  obtain⟨cap,h1,⟨_,_,h2,h3,h4⟩|⟨b,off,h2,_,h3⟩⟩:=this
  ·exact⟨cap,h1,.inl ⟨trivial,trivial,h2,h3,h4⟩⟩
  ·exact h3.elim
 |_::_::_::_::_,hu=>simp only[VL,and_false]at hu
def Good(G0:Gh)(res:AV)(r:Tm×List Tm):Prop:=∀W G' W',Ext G0 W G' W'->Keep G'.F G'.w0 W'->∀u,V G' W' res u->V G' W' (.tup [tmA r.1,.sl (flat tmCells r.2) (List.length r.2) .no]) u
def g219L0(p0:Tm):Tm->List Tm->Option (Tm×List Tm)
 | .mk k n [a,b],l=>
  if (k==5)=true then
   if decide ((List.length l:Int)≥8192)=true then some (p0,[])else(gapp 40 l [b])>>=fun l2=>g219L0 p0 a l2
  else some (.mk k n [a,b],l.reverse)
 |x,l=>some (x,l.reverse)
def g219(p0:Tm):Option (Tm×List Tm):=g219L0 p0 p0 []
theorem dVals:∀vs:List Value,AV.DataL (vs.map .val)
 | []=>trivial
 |_::vs=>⟨trivial,dVals vs⟩
theorem VL.rev{G:Gh}{w:World}:∀(l:List Tm) (ls:List L3),VL G w (flat tmCells l) (vals ls)->ls.length=l.length->VL G w (flat tmCells l.reverse) (vals ls.reverse)
 | [],[],_,_=>by simp[flat,vals,VL]
 |x::l,y::ls,h,hl=>by
  simp only[flat,vals,List.flatMap_cons]at h
  obtain⟨u1,u2,e,h1,h2⟩:=VL.split _ _ _ h
  have n1:=VL.length _ _ h1
  rw[codecT.len]at n1
  obtain⟨rfl,rfl⟩:=List.append_inj e (by rw[n1];rfl)
  have ih:=VL.rev l ls h2 (by simpa using hl)
  simp only[List.reverse_cons,flat,vals,List.flatMap_append,List.flatMap_cons,List.flatMap_nil,List.append_nil]
  exact VL.append _ _ _ _ ih h1
 | [],_::_,_,h=>by simp at h
 |_::_,[],_,h=>by simp at h
theorem good_exit{na:Nb}{G0:Gh}(hB:Base na G0){x:Tm}{l:List Tm}{vs:List Value}(v1:VL G0 G0.w0 (flat tmCells x.sub) vs)(hn:na.n=0:=by first|rfl|assumption):Good G0 (.tup [.agg [ai x.k,ai x.n,.sl (vs.map .val) x.sub.length .no],.sl (flat tmCells l.reverse) l.length .no]) (x,l.reverse):=by
 intro W G' W' hE hK u hu
 have v:=VL.later hB hE hK v1
 simp only[V,VL]at hu
 obtain⟨us,rfl,hus⟩:=hu
 match us,hus with
 | [],h=>simp only[VL]at h
 | [_],h=>simp only[VL,and_false]at h
 | [ua,ub],h=>
  simp only[VL,and_true]at h
  obtain⟨h1,h2⟩:=h
  simp only[V]at h1
  obtain⟨ws,rfl,hws⟩:=h1
  match ws,hws with
  | [],h=>simp only[VL]at h
  | [_],h=>simp only[VL,and_false]at h
  | [_,_],h=>simp only[VL,and_false]at h
  | [w0,w1,w2],h=>
   simp only[VL,and_true]at h
   obtain⟨g0,g1,g2⟩:=h
   have g3:=relit g2 v
   simp only[V]
   refine⟨[.agg #[w0,w1,w2],ub],rfl,?_⟩
   simp only[VL,and_true]
   refine⟨?_,by simpa using h2⟩
   simp only[tmA,V]
   exact⟨[w0,w1,w2],rfl,by simp only[tmL,VL,and_true];exact⟨g0,g1,g3⟩⟩
  |_::_::_::_::_,h=>simp only[VL,and_false]at h
 |_::_::_::_,h=>simp only[VL,and_false]at h
theorem good_long{na:Nb}{G0:Gh}(hB:Base na G0){x:Tm}{q:Option Addr×Nat×Nat}(h0:VL G0 G0.w0 (tmL x) (sv x q))(hn:na.n=0:=by first|rfl|assumption):Good G0 (.tup [.agg [.val (.int .i64 x.k),.val (.int .i64 x.n),.val (.slice q.1 q.2.1 q.2.2)],.sl [] 0 .no]) (x,[]):=by
 intro W G' W' hE hK u hu
 have v:=VL.later hB hE hK h0
 simp only[V,VL]at hu
 obtain⟨us,rfl,hus⟩:=hu
 match us,hus with
 | [],h=>simp only[VL]at h
 | [_],h=>simp only[VL,and_false]at h
 | [ua,ub],h=>
  simp only[VL,and_true]at h
  obtain⟨h1,h2⟩:=h
  simp only[V]at h1
  obtain⟨ws,rfl,hws⟩:=h1
  have hw:ws=sv x q:=VL.litEq (sv x q) ws hws
  subst hw
  simp only[V]
  refine⟨[.agg (sv x q).toArray,ub],rfl,?_⟩
  simp only[VL,and_true]
  refine⟨?_,by simpa[flat]using h2⟩
  simp only[tmA,V]
  exact⟨sv x q,rfl,v⟩
 |_::_::_::_,h=>simp only[VL,and_false]at h
theorem spAX{G0:Gh}{p0 x:Tm}{q0:Option Addr×Nat×Nat}{l:List Tm}{ls:List L3}{vs:List Value}{o:Own}(j:Nat->Value)(hlit:Blk.lit (.cells [ai x.k,ai x.n,.sl (vs.map .val) x.sub.length o]))(hl:VL G0 G0.w0 (flat tmCells l) (vals ls))(hlen:ls.length=l.length)(h8:l.length≤8192) :
  Dv Tryz.prog (⟨0,fun G=>G=G0⟩:Nb) (rgt (rgt (rgt (rgt (bod Tryz.f219))))) [.val (j 0),.mp 0 0,.mp 1 0,.val (j 3),.sl (flat c3 ls) ls.length (.st 0 3),.mp 2 0,.val (j 6),.mp 2 0,ai x.k,ab false,ab false,.val undef,.val undef,.val undef,.val undef,ab false,.val (j 16),.val (j 17),.val (j 18),.val (j 19),.val (j 20),.val (j 21),.val (j 22),.val (j 23),.val (j 24),.val (j 25),.val (j 26),.val (j 27),.val (j 28),.val (j 29),.val (j 30),.val (j 31),.val (j 32),.val (j 33),.val (j 34)] ⟨[(0,.cells [.val (.int .i64 p0.k),.val (.int .i64 p0.n),.val (.slice q0.1 q0.2.1 q0.2.2)]),(1,.cells [ai 0,ai 0,.sl [] 0 .nl]),(2,.cells [ai x.k,ai x.n,.sl (vs.map .val) x.sub.length o])],3,[0],1,[]⟩ (FinQ Tryz.prog (⟨0,fun G=>G=G0⟩:Nb) Tryz.f219 (.tup [.agg [ai x.k,ai x.n,.sl (vs.map .val) x.sub.length .no],.sl (flat tmCells l.reverse) l.length .no]) [] 0):=by
 have k1:knd (rgt (rgt (rgt (rgt (bod Tryz.f219)))))=1:=by kernel_rfl
 have k3:isReg (lft (rgt (rgt (rgt (rgt (bod Tryz.f219))))))=true:=by kernel_rfl
 have k4:clOf (regOps (lft (rgt (rgt (rgt (rgt (bod Tryz.f219)))))))[1]? = some (some 32,327,#[.tmp 31]):=by kernel_rfl
 have k5:(Tryz.f327.name == "runtime.NumGoroutine")=false:=by kernel_rfl
 have k6:Tryz.f327.body.isNone=false:=by kernel_rfl
 refine Dv.seqP k1 ?_
 obtain⟨id,k7⟩:=regP k3
 rw[k7]
 refine Dv.mut prim_ok (na:=(⟨0,fun G=>G=G0⟩:Nb)) rfl 1 [1,2] [(4,.sl (flat tmCells l.reverse) l.length .no)] (.tup []) (spA2 j ls x _ vs o) ObsOk.nil k4 Tryz.func327 k5 k6 ?_ ?_ (fun i=>spA3 j i ls l x _ vs o) ObsOk.nil ?_
 ·intro i X hm hX
  have:i=1∨i=2:=by simpa using any_beq.1 hm
  rcases this with rfl|rfl
  ·cases hX;exact zlit
  ·cases hX;exact hlit
 ·intro G1 W hB' G w hE hR u hu
  have e:=hB'.κ
  subst e
  refine(rev_call (l:=ls) hR (by rfl) (by omega) hu).mono ?_
  rintro e w' ⟨v,b,S,e1,e2,e3,e4,e5,e6,e7⟩
  refine⟨v,b,S,e1,e2,e3,e4,e5,fun G' hE' hK' hS=>⟨by subst e6;simp only[V];exact⟨[],rfl,by simp only[VL]⟩,?_⟩⟩
  intro p hp u' hu'
  have hp':=List.mem_singleton.1 hp
  subst hp'
  have:=e7 G' hS _ (VL.later hB' hE' hK' (VL.rev l ls hl hlen)) u' hu'
  rw[hlen]at this
  exact this
 ·intro i
  exact kfin_ok (na:=(⟨0,fun G=>G=G0⟩:Nb)) prim_ok mixed (spA4 j i l x vs o) (ObsOk.cons (obData (dVals vs)) (ObsOk.cons (obData (dT _)) ObsOk.nil)) (by decide)
theorem spBX{G0:Gh}{p0 x:Tm}{q0:Option Addr×Nat×Nat}{l:List Tm}{ls:List L3}{vs:List Value}{o:Own}(j:Nat->Value)(hlit:Blk.lit (.cells [ai x.k,ai x.n,.sl (vs.map .val) x.sub.length o]))(hl:VL G0 G0.w0 (flat tmCells l) (vals ls))(hlen:ls.length=l.length)(h8:l.length≤8192) :
  Dv Tryz.prog (⟨0,fun G=>G=G0⟩:Nb) (rgt (rgt (rgt (rgt (bod Tryz.f219))))) [.val (j 0),.mp 0 0,.mp 1 0,.val (j 3),.sl (flat c3 ls) ls.length (.st 0 3),.mp 2 0,.val (j 6),.mp 2 0,ai x.k,ab true,ab true,.mp 2 2,.sl (vs.map .val) x.sub.length o,ai (x.sub.length:Int),ab false,ab false,.val (j 16),.val (j 17),.val (j 18),.val (j 19),.val (j 20),.val (j 21),.val (j 22),.val (j 23),.val (j 24),.val (j 25),.val (j 26),.val (j 27),.val (j 28),.val (j 29),.val (j 30),.val (j 31),.val (j 32),.val (j 33),.val (j 34)] ⟨[(0,.cells [.val (.int .i64 p0.k),.val (.int .i64 p0.n),.val (.slice q0.1 q0.2.1 q0.2.2)]),(1,.cells [ai 0,ai 0,.sl [] 0 .nl]),(2,.cells [ai x.k,ai x.n,.sl (vs.map .val) x.sub.length o])],3,[0],1,[]⟩ (FinQ Tryz.prog (⟨0,fun G=>G=G0⟩:Nb) Tryz.f219 (.tup [.agg [ai x.k,ai x.n,.sl (vs.map .val) x.sub.length .no],.sl (flat tmCells l.reverse) l.length .no]) [] 0):=by
 have k1:knd (rgt (rgt (rgt (rgt (bod Tryz.f219)))))=1:=by kernel_rfl
 have k3:isReg (lft (rgt (rgt (rgt (rgt (bod Tryz.f219))))))=true:=by kernel_rfl
 have k4:clOf (regOps (lft (rgt (rgt (rgt (rgt (bod Tryz.f219)))))))[1]? = some (some 32,327,#[.tmp 31]):=by kernel_rfl
 have k5:(Tryz.f327.name == "runtime.NumGoroutine")=false:=by kernel_rfl
 have k6:Tryz.f327.body.isNone=false:=by kernel_rfl
 refine Dv.seqP k1 ?_
 obtain⟨id,k7⟩:=regP k3
 rw[k7]
 refine Dv.mut prim_ok (na:=(⟨0,fun G=>G=G0⟩:Nb)) rfl 1 [1,2] [(4,.sl (flat tmCells l.reverse) l.length .no)] (.tup []) (spB2 j ls x _ vs o) ObsOk.nil k4 Tryz.func327 k5 k6 ?_ ?_ (fun i=>spB3 j i ls l x _ vs o) ObsOk.nil ?_
 ·intro i X hm hX
  have:i=1∨i=2:=by simpa using any_beq.1 hm
  rcases this with rfl|rfl
  ·cases hX;exact zlit
  ·cases hX;exact hlit
 ·intro G1 W hB' G w hE hR u hu
  have e:=hB'.κ
  subst e
  refine(rev_call (l:=ls) hR (by rfl) (by omega) hu).mono ?_
  rintro e w' ⟨v,b,S,e1,e2,e3,e4,e5,e6,e7⟩
  refine⟨v,b,S,e1,e2,e3,e4,e5,fun G' hE' hK' hS=>⟨by subst e6;simp only[V];exact⟨[],rfl,by simp only[VL]⟩,?_⟩⟩
  intro p hp u' hu'
  have hp':=List.mem_singleton.1 hp
  subst hp'
  have:=e7 G' hS _ (VL.later hB' hE' hK' (VL.rev l ls hl hlen)) u' hu'
  rw[hlen]at this
  exact this
 ·intro i
  exact kfin_ok (na:=(⟨0,fun G=>G=G0⟩:Nb)) prim_ok mixed (spB4 j i l x vs o) (ObsOk.cons (obData (dVals vs)) (ObsOk.cons (obData (dT _)) ObsOk.nil)) (by decide)
theorem apC22{l m r:List L3}(h:gapp 40 l m=some r)(hm:m.length≠0):Ob.ok Tryz.prog (.app 78 78 (flat c3 l) (flat c3 m) (flat c3 r) l.length m.length r.length 3 false):=app_some codec3 Tryz.underlying78 info80 rfl rfl rfl (by decide) rfl (by decide) h hm
theorem g135_exit{p0 x:Tm}{l:List Tm}{r:Tm×List Tm}(h:g219L0 p0 x l=some r)(hx:¬((x.k==5)=true∧x.sub.length=2)):r=(x,l.reverse):=by
 obtain⟨k,n,sub⟩:=x
 unfold g219L0 at h
 split at h
 ·rename_i k' n' a b e
  cases e
  split at h
  ·rename_i hk
   exact(hx ⟨hk,rfl⟩).elim
  ·cases h;rfl
 ·cases h;rfl
theorem spine_loop{p0:Tm}{q0:Option Addr×Nat×Nat}{G0:Gh}(hB:Base (⟨0,fun G=>G=G0⟩:Nb) G0)(h0:VL G0 G0.w0 (tmL p0) (sv p0 q0)):∀(N:Nat) (x:Tm) (l:List Tm) (r:Tm×List Tm) (hN:SizeOf.sizeOf x≤N) (h:g219L0 p0 x l=some r) (h8:l.length≤8192) (q:Option Addr×Nat×Nat) (ls:List L3)
  (hx:VL G0 G0.w0 (tmL x) (sv x q)) (hl:VL G0 G0.w0 (flat tmCells l) (vals ls)) (hlen:ls.length=l.length),∃res,Good G0 res r∧∀j:Nat->Value,Dl Tryz.prog (⟨0,fun G=>G=G0⟩:Nb) (inn (inn (lft (rgt (rgt (rgt (bod Tryz.f219))))))) [.val (j 0),.mp 0 0,.mp 1 0,.val (j 3),.sl (flat c3 ls) ls.length (.st 0 3),.mp 2 0,.val (j 6),.val (j 7),.val (j 8),.val (j 9),.val (j 10),.val (j 11),.val (j 12),.val (j 13),.val (j 14),.val (j 15),.val (j 16),.val (j 17),.val (j 18),.val (j 19),.val (j 20),.val (j 21),.val (j 22),.val (j 23),.val (j 24),.val (j 25),.val (j 26),.val (j 27),.val (j 28),.val (j 29),.val (j 30),.val (j 31),.val (j 32),.val (j 33),.val (j 34)] ⟨[(0,.cells [.val (.int .i64 p0.k),.val (.int .i64 p0.n),.val (.slice q0.1 q0.2.1 q0.2.2)]),(1,.cells [ai 0,ai 0,.sl [] 0 .nl]),(2,.cells [.val (.int .i64 x.k),.val (.int .i64 x.n),.val (.slice q.1 q.2.1 q.2.2)])],3,[0],1,[]⟩ (frameQ Tryz.prog (⟨0,fun G=>G=G0⟩:Nb) (FinQ Tryz.prog (⟨0,fun G=>G=G0⟩:Nb) Tryz.f219 res [] 0) [.blk 0,.seq (rgt (rgt (rgt (rgt (bod Tryz.f219)))))]):=by
 intro N
 induction N with
 |zero=>
  intro x l r hN
  obtain⟨k,n,sub⟩:=x
  simp at hN
 |succ N spine_ih=>
 intro x l r hN h h8 q ls hx hl hlen
 obtain⟨vs,o,v1,v2,v3⟩:=open_tm hB hx
 have hopen:∀ {res:AV} (j:Nat->Value),Dl Tryz.prog (⟨0,fun G=>G=G0⟩:Nb) (inn (inn (lft (rgt (rgt (rgt (bod Tryz.f219))))))) [.val (j 0),.mp 0 0,.mp 1 0,.val (j 3),.sl (flat c3 ls) ls.length (.st 0 3),.mp 2 0,.val (j 6),.val (j 7),.val (j 8),.val (j 9),.val (j 10),.val (j 11),.val (j 12),.val (j 13),.val (j 14),.val (j 15),.val (j 16),.val (j 17),.val (j 18),.val (j 19),.val (j 20),.val (j 21),.val (j 22),.val (j 23),.val (j 24),.val (j 25),.val (j 26),.val (j 27),.val (j 28),.val (j 29),.val (j 30),.val (j 31),.val (j 32),.val (j 33),.val (j 34)] ⟨[(0,.cells [.val (.int .i64 p0.k),.val (.int .i64 p0.n),.val (.slice q0.1 q0.2.1 q0.2.2)]),(1,.cells [ai 0,ai 0,.sl [] 0 .nl]),(2,.cells [ai x.k,ai x.n,.sl (vs.map .val) x.sub.length o])],3,[0],1,[]⟩ (frameQ Tryz.prog (⟨0,fun G=>G=G0⟩:Nb) (FinQ Tryz.prog (⟨0,fun G=>G=G0⟩:Nb) Tryz.f219 res [] 0) [.blk 0,.seq (rgt (rgt (rgt (rgt (bod Tryz.f219)))))])->Dl Tryz.prog (⟨0,fun G=>G=G0⟩:Nb) (inn (inn (lft (rgt (rgt (rgt (bod Tryz.f219))))))) [.val (j 0),.mp 0 0,.mp 1 0,.val (j 3),.sl (flat c3 ls) ls.length (.st 0 3),.mp 2 0,.val (j 6),.val (j 7),.val (j 8),.val (j 9),.val (j 10),.val (j 11),.val (j 12),.val (j 13),.val (j 14),.val (j 15),.val (j 16),.val (j 17),.val (j 18),.val (j 19),.val (j 20),.val (j 21),.val (j 22),.val (j 23),.val (j 24),.val (j 25),.val (j 26),.val (j 27),.val (j 28),.val (j 29),.val (j 30),.val (j 31),.val (j 32),.val (j 33),.val (j 34)] ⟨[(0,.cells [.val (.int .i64 p0.k),.val (.int .i64 p0.n),.val (.slice q0.1 q0.2.1 q0.2.2)]),(1,.cells [ai 0,ai 0,.sl [] 0 .nl]),(2,.cells [.val (.int .i64 x.k),.val (.int .i64 x.n),.val (.slice q.1 q.2.1 q.2.2)])],3,[0],1,[]⟩ (frameQ Tryz.prog (⟨0,fun G=>G=G0⟩:Nb) (FinQ Tryz.prog (⟨0,fun G=>G=G0⟩:Nb) Tryz.f219 res [] 0) [.blk 0,.seq (rgt (rgt (rgt (rgt (bod Tryz.f219)))))]):=by
  intro res j hd
  refine Dl.openB (b:=2) (cs:=[.val (.int .i64 x.k),.val (.int .i64 x.n),.val (.slice q.1 q.2.1 q.2.2)]) (cs':=[ai x.k,ai x.n,.sl (vs.map .val) x.sub.length o]) rfl (fun G1 W hB' G w hE hK us hus=>?_) hd
  have e:=hB'.κ
  subst e
  have hu:us=sv x q:=VL.litEq (sv x q) us hus
  subst hu
  exact VL.later hB' hE hK v2
 by_cases hk:(x.k==5)=true
 ·by_cases h2:x.sub.length=2
  ·obtain⟨k,n,sub⟩:=x
   match sub,h2 with
   | [a,b],_=>
   rw[g219L0]at h
   replace h:=ifT hk h
   rcases bcases (decide ((List.length l:Int)≥8192))with h3|h3
   ·replace h:=ifT h3 h
    cases h
    exact⟨_,good_long hB h0,fun j=>hopen j (Dl.toFin (na:=(⟨0,fun G=>G=G0⟩:Nb)) prim_ok mixed 3000 _ _ _ _ _ (spC j p0 q0 ls (.mk k n [a,b]) vs o) (ObsOk.cons (obBit hk) (ObsOk.cons (obBit rfl) (ObsOk.cons (obBit (by rw[hlen];exact h3)) (ObsOk.cons (obData trivial) ObsOk.nil)))) (by decide))⟩
   ·replace h:=ifF h3 h
    obtain⟨l2,hg,h⟩:=obind h
    obtain⟨hg1,rfl⟩:=gapp_spec hg
    have w1:VL G0 G0.w0 (tmCells a++(tmCells b++[])) vs:=v1
    obtain⟨ua,u2,rfl,wa,w2⟩:=VL.split _ _ _ w1
    obtain⟨ub,u3,rfl,wb,w3⟩:=VL.split _ _ _ w2
    have e3:u3=[]:=by
     have:=VL.length _ _ w3
     exact List.length_eq_zero_iff.1 this
    subst e3
    rw[tm_eq]at wa wb
    obtain⟨qa,rfl⟩:=sv_of wa
    obtain⟨qb,rfl⟩:=sv_of wb
    have h3':List.length l<8192:=by
     have:=of_decide_eq_false h3
     omega
    have hl2:VL G0 G0.w0 (flat tmCells (l++[b])) (vals (ls++[sv3 b qb])):=by
     simp only[flat,vals,List.flatMap_append,List.flatMap_cons,List.flatMap_nil,List.append_nil]
     refine VL.append _ _ _ _ hl ?_
     rw[tm_eq];exact wb
    have hga:gapp 40 ls [sv3 b qb]=some (ls++[sv3 b qb]):=by
     unfold gapp
     rw[if_pos]
     simp only[List.length_cons,List.length_nil]at hg1 ⊢
     rw[hlen];exact hg1
    obtain⟨res,hgood,hdl⟩:=spine_ih a (l++[b]) r (by simp at hN;omega) h (by simp;omega) qa (ls++[sv3 b qb]) wa hl2 (by simp[hlen])
    refine⟨res,hgood,fun j=>hopen j (Dl.toHead (na:=(⟨0,fun G=>G=G0⟩:Nb)) prim_ok mixed 3000 _ _ _ _ _ (fun i=>spD i j k n a b qa qb _ _ _ ls (ls++[sv3 b qb]) o) ?_ fun i=>hdl i)⟩
    exact ObsOk.cons (obBit hk) (ObsOk.cons (obBit rfl) (ObsOk.cons (obBit (by rw[hlen];exact h3)) (ObsOk.cons (apC22 (m:=[sv3 b qb]) hga (by simp)) (ObsOk.cons (obData trivial) (ObsOk.cons (obData (flat_data codec3.data _)) ObsOk.nil)))))
  ·have hr:=g135_exit h (fun e=>h2 e.2)
   subst hr
   refine⟨.tup [.agg [ai x.k,ai x.n,.sl (vs.map .val) x.sub.length .no],.sl (flat tmCells l.reverse) l.length .no],good_exit hB v1,fun j=>hopen j (Dl.step ?_)⟩
   have hx1:=spBX (G0:=G0) (p0:=p0) (q0:=q0) j v3 hl hlen h8
   refine krun_ok (Q:=_) prim_ok mixed 3000 (.run (inn (inn (lft (rgt (rgt (rgt (bod Tryz.f219)))))))) [] _ _ _ _ _ _ _ _ (spB1 j ls x _ vs o) (ObsOk.cons (obBit hk) (ObsOk.cons (obBit (by simp;omega)) ObsOk.nil)) ?_
   simp only[KQ,seqQ,frameQ,blockQ,if_true]
   exact hx1
 ·have hr:=g135_exit h (fun e=>hk e.1)
  subst hr
  ·refine⟨.tup [.agg [ai x.k,ai x.n,.sl (vs.map .val) x.sub.length .no],.sl (flat tmCells l.reverse) l.length .no],good_exit hB v1,fun j=>hopen j (Dl.step ?_)⟩
   have hx1:=spAX (G0:=G0) (p0:=p0) (q0:=q0) j v3 hl hlen h8
   refine krun_ok (Q:=_) prim_ok mixed 3000 (.run (inn (inn (lft (rgt (rgt (rgt (bod Tryz.f219)))))))) [] _ _ _ _ _ _ _ _ (spA1 j ls x _ vs o) (ObsOk.cons (obBit (by simpa using hk)) ObsOk.nil) ?_
   simp only[KQ,seqQ,frameQ,blockQ,if_true]
   exact hx1
theorem c219g{p0:Tm}{r:Tm×List Tm}(h:g219 p0=some r):CT Tryz.prog 219 [] [tmA p0] (.tup [tmA r.1,.sl (flat tmCells r.2) (List.length r.2) .no]) [] 0:=by
 refine⟨?_,⟨⟨trivial,trivial,⟨trivial,dT _⟩,trivial⟩,trivial⟩,(fun _ h=>nomatch h),⟨⟨trivial,trivial,dT _,trivial⟩,dT _,trivial⟩,(fun _ h=>nomatch h)⟩
 intro G0 W cargs hB hR hv
 cases hc:cargs.toList with
 |nil=>rw[hc]at hv;simp only[VL]at hv
 |cons u us=>
  rw[hc]at hv
  simp only[VL]at hv
  obtain⟨hu,hus⟩:=hv
  have hus':us=[]:=by
   have:=VL.length _ _ hus
   exact List.length_eq_zero_iff.1 this
  subst hus'
  simp only[tmA,V]at hu
  obtain⟨ws,rfl,hws⟩:=hu
  obtain⟨q0,rfl⟩:=sv_of hws
  have hBK:Base (⟨0,fun G=>G=G0⟩:Nb) G0:=⟨hB.ρ,hB.τ,hB.LF,rfl⟩
  have h0:=VL.back hB hR hws
  obtain⟨res,hgood,hdl⟩:=spine_loop hBK h0 _ p0 [] r (Nat.le_refl _) h (by simp) q0 [] h0 (by simp[flat,vals,VL]) rfl
  have hv2:VL G0 W [.agg [.val (.int .i64 p0.k),.val (.int .i64 p0.n),.val (.slice q0.1 q0.2.1 q0.2.2)]] cargs.toList:=by
   rw[hc]
   simp only[VL,V,and_true]
   exact⟨sv p0 q0,rfl,VL.lits (sv p0 q0)⟩
  have hb:=body_at (na:=(⟨0,fun G=>G=G0⟩:Nb)) (res:=res) (H1:=[]) (nst:=0) rfl Tryz.func219 (by kernel_rfl) (khead_ok (na:=(⟨0,fun G=>G=G0⟩:Nb)) (m:=.run (bod Tryz.f219)) (fs:=[]) prim_ok mixed (fun i=>spE i p0.k p0.n q0) (ObsOk.cons (obData trivial) (ObsOk.cons (obData trivial) ObsOk.nil)) fun i=>hdl i) hBK hR hv2
  refine hb.mono ?_
  rintro e W' ⟨u,G',s',rfl,hE,hR',hu,h1,h2⟩
  exact⟨u,G',s',rfl,hE,hR',hgood W G' W' hE hR'.below u hu,h1,h2⟩
def e219(_qq:Nat)(p0:Tm):Option (Tm×List Tm):=g219 p0
theorem c219{qq:Nat}{p0:Tm}{r:Tm×List Tm}(h:e219 qq p0=some r):CT Tryz.prog 219 [] [tmA p0] (.tup [tmA r.1,.sl (flat tmCells r.2) (List.length r.2) .no]) [] 0:=c219g h
def e233Lar(qq:Nat)(p2 p4:Int)(r1:Tm×List Tm)(v37:Int):Option (Bool):=
 if decide (v37<p2)then
 none
 else
 some true
def e233(qq:Nat)(p0:Tm)(p1 p2 p3 p4:Int):Option (Bool):=
 e219 qq p0>>=fun r1=>
 if r1.1.k != 6 then
 none
 else
 if r1.1.n != p1 then
 none
 else
 if (List.length r1.2:Int) != (w64 (p2+p3))then
 none
 else
 e233Lar qq p2 p4 r1 0
def g233LarE0(j:Nat->Value)(p2 p4:Int)(r1:Tm×List Tm)(v37:Int):=sp j 59 0 [(4,ai p4),(12,slv tmCells r1.2 .no),(36,ai p2),(37,ai v37)]
def g233LarS0(p2 p4:Int)(r1:Tm×List Tm)(v37:Int):LSt:=⟨[],0,[],0,[]⟩
abbrev K233 (p0:Tm) (p1 p2 p3 p4:Int) (r:Bool) (C:Cf):Prop:=C 233 [] [tmA p0,ai p1,ai p2,ai p3,ai p4] (ab r) [] 0
theorem q233:Qf 233 Tryz.f233:=⟨Tryz.func233,by kernel_rfl⟩
theorem k233{p0 p1 p2 p3 p4 r}(h:K233 p0 p1 p2 p3 p4 r Ci):K233 p0 p1 p2 p3 p4 r Ct:=⟨h,⟨⟨tv,tv,⟨tv,dT _⟩,tv⟩,tv,tv,tv,tv,tv⟩,forall_nil,tv,forall_nil⟩
theorem l233Lar(qq p2 p4 r1 v37 r)(h:e233Lar qq p2 p4 r1 v37=some r):(∀j,Dl Tryz.prog 0 (inn (inn (rgt (lft (rgt (rgt (rgt (bod Tryz.f233)))))))) (g233LarE0 j p2 p4 r1 v37) (g233LarS0 p2 p4 r1 v37) (frameQ Tryz.prog 0 (FinQ Tryz.prog 0 Tryz.f233 (ab r) [] 0) [.blk 0,.seq (rgt (rgt (rgt (rgt (bod Tryz.f233)))))])):=by
 unfold e233Lar at h
 obtain⟨h6,h⟩:=splF h
 obtain rfl:=sj h
 exact fun j=>lF 0 [] (oB 0 h6 o0)
theorem c233{qq p0 p1 p2 p3 p4 r}(h:e233 qq p0 p1 p2 p3 p4=some r):K233 p0 p1 p2 p3 p4 r Ct:=by
 unfold e233 at h
 obtain⟨r1,h2,h⟩:=obind h
 have k:=oC 1 [] (c219 h2) o0
 obtain⟨h3,h⟩:=splF h
 have k:=oB 4 h3 k
 obtain⟨h4,h⟩:=splF h
 have k:=oB 1 h4 k
 obtain⟨h5,h⟩:=splF h
 exact k233 (tH q233 0 [] [] [] [4,12,36,37] (oD (dT r1.2)<|oB 2 h5 k) (l233Lar qq _ _ _ _ _ h))
def e136(qq:Nat)(p0:List Ent)(p1:Int):Option (Bool):=
 gidx p0 p1>>=fun x1=>
 e231 qq x1.type>>=fun r3=>
 e232 qq p0 p1>>=fun r5=>
 if r5 then
 if r3.2.2==0 then
 if decide ((List.length r3.1:Int)≥x1.pars)then
 gidx p0 x1.fam>>=fun x10=>
 e233 qq r3.2.1 x1.fam x1.pars x10.inds (List.length r3.1:Int)>>=fun r12=>
 some r12
 else
 none
 else
 none
 else
 none
abbrev K136 (p0:List Ent) (p1:Int) (r:Bool) (C:Cf):Prop:=C 136 [] [slv entL p0 .no,ai p1] (ab r) [] 0
theorem q136:Qf 136 Tryz.f136:=⟨Tryz.func136,by kernel_rfl⟩
theorem k136{p0 p1 r}(h:K136 p0 p1 r Ci):K136 p0 p1 r Ct:=⟨h,⟨⟨tv,dE _⟩,tv,tv⟩,forall_nil,tv,forall_nil⟩
theorem c136{qq p0 p1 r}(h:e136 qq p0 p1=some r):K136 p0 p1 r Ct:=by
 unfold e136 at h
 obtain⟨x1,h2,h⟩:=obind h
 obtain⟨r3,h4,h⟩:=obind h
 obtain⟨r5,h6,h⟩:=obind h
 have k:=oC 1 [] (c231 h4)<|oA 0 (ix23 (o:=.no) h2) o0
 obtain⟨h7,h⟩:=spT h
 have k:=oK 4 [] h7 (c232 h6) k
 obtain⟨h8,h⟩:=spT h
 have k:=oA 1 (ix23 (o:=.no) h2)<|oB 0 h8 k
 obtain⟨h9,h⟩:=spT h
 obtain⟨x10,h11,h⟩:=obind h
 obtain⟨r12,h13,h⟩:=obind h
 obtain rfl:=sj h
 exact k136 (tF q136 0 [] (oC 2 [] (c233 h13)<|oA 1 (ix23 (o:=.no) h11)<|oA 1 (ix23 (o:=.no) h2)<|oA 1 (ix23 (o:=.no) h2)<|oA 1 (ix23 (o:=.no) h2)<|oB 1 h9 k))
def e84(qq:Nat)(p0:List Ent)(p1:Int):Option (Bool):=
 gidx p0 p1>>=fun x1=>
 e133 qq x1.name>>=fun r3=>
 if r3 then
 e134 qq x1.type p1>>=fun r6=>
 if r6 then
 if x1.kind==1 then
 e135 qq p0 p1>>=fun r10=>
 some r10
 else
 if x1.kind==2 then
 e136 qq p0 p1>>=fun r13=>
 some r13
 else
 none
 else
 none
 else
 none
abbrev K84 (p0:List Ent) (p1:Int) (r:Bool) (C:Cf):Prop:=C 84 [] [slv entL p0 .no,ai p1] (ab r) [] 0
theorem q84:Qf 84 Tryz.f84:=⟨Tryz.func84,by kernel_rfl⟩
theorem k84{p0 p1 r}(h:K84 p0 p1 r Ci):K84 p0 p1 r Ct:=⟨h,⟨⟨tv,dE _⟩,tv,tv⟩,forall_nil,tv,forall_nil⟩
theorem c84{qq p0 p1 r}(h:e84 qq p0 p1=some r):K84 p0 p1 r Ct:=by
 unfold e84 at h
 obtain⟨x1,h2,h⟩:=obind h
 obtain⟨r3,h4,h⟩:=obind h
 have k:=oA 0 (ix23 (o:=.no) h2) o0
 obtain⟨h5,h⟩:=spT h
 obtain⟨r6,h7,h⟩:=obind h
 have k:=oA 1 (ix23 (o:=.no) h2)<|oK 1 [] h5 (c133 h4) k
 obtain⟨h8,h⟩:=spT h
 have k:=oA 1 (ix23 (o:=.no) h2)<|oK 1 [] h8 (c134 h7) k
 rcases spl h with⟨h9,h⟩|⟨h9,h⟩
 obtain⟨r10,h11,h⟩:=obind h
 obtain rfl:=sj h
 exact k84 (tF q84 0 [] (oC 0 [] (c135 h11)<|oB 1 h9 k))
 have k:=oB 1 h9 k
 obtain⟨h12,h⟩:=spT h
 obtain⟨r13,h14,h⟩:=obind h
 obtain rfl:=sj h
 exact k84 (tF q84 0 [] (oC 0 [] (c136 h14)<|oB 0 h12 k))
def e48Las:Nat->(List Ent)->Int->Option (Bool)
 |0,_,_=>none
 |qq+1,p0,v15=>
 if decide (v15<(List.length p0:Int))then
 e84 qq p0 v15>>=fun r8=>
 if r8 then
 e48Las qq p0 (w64 (v15+1))
 else
 none
 else
 some true
def e48(qq:Nat)(p0:List Ent):Option (Bool):=
 if decide ((List.length p0:Int)>256)then
 none
 else
 e83 qq p0>>=fun r2=>
 e82 qq r2>>=fun r4=>
 if r4 then
 e48Las qq p0 0
 else
 none
def g48LasE0(j:Nat->Value)(p0:List Ent)(v15:Int):=sp j 23 0 [(0,slv entL p0 .no),(14,ai (List.length p0:Int)),(15,ai v15)]
def g48LasS0(p0:List Ent)(v15:Int):LSt:=⟨[],0,[],0,[]⟩
abbrev K48 (p0:List Ent) (r:Bool) (C:Cf):Prop:=C 48 [] [slv entL p0 .no] (ab r) [] 0
theorem q48:Qf 48 Tryz.f48:=⟨Tryz.func48,by kernel_rfl⟩
theorem k48{p0 r}(h:K48 p0 r Ci):K48 p0 r Ct:=⟨h,⟨⟨tv,dE _⟩,tv⟩,forall_nil,tv,forall_nil⟩
theorem l48Las:∀qq:Nat,(∀p0 v15 r,e48Las qq p0 v15=some r->(∀j,Dl Tryz.prog 0 (inn (inn (rgt (lft (rgt (rgt (bod Tryz.f48))))))) (g48LasE0 j p0 v15) (g48LasS0 p0 v15) (frameQ Tryz.prog 0 (FinQ Tryz.prog 0 Tryz.f48 (ab r) [] 0) [.blk 0,.seq (rgt (rgt (rgt (bod Tryz.f48))))]))):=by
 intro qq
 induction qq with
 |zero=>
  exact fun _ _ _ h=>nn h
 |succ qq ih=>
  intro p0 v15 r h
  rw[e48Las]at h
  rcases spl h with⟨h7,h⟩|⟨h7,h⟩
  obtain⟨r8,h9,h⟩:=obind h
  have k:=oB 0 h7 o0
  obtain⟨h10,h⟩:=spT h
  exact fun j=>lH 2 [] [] [] [0,14,15] (oD (dE p0)<|oK 0 [] h10 (c84 h9) k) (ih _ _ _ h)
  obtain rfl:=sj h
  exact fun j=>lF 0 [] (oB 0 h7 o0)
theorem c48{qq p0 r}(h:e48 qq p0=some r):K48 p0 r Ct:=by
 unfold e48 at h
 obtain⟨h1,h⟩:=splF h
 obtain⟨r2,h3,h⟩:=obind h
 obtain⟨r4,h5,h⟩:=obind h
 have k:=oC 0 [] (c83 h3)<|oB 1 h1 o0
 obtain⟨h6,h⟩:=spT h
 exact k48 (tH q48 2 [] [] [] [0,14,15] (oD (dE p0)<|oK 0 [] h6 (c82 h5) k) (l48Las _ _ _ _ h))
def e338(qq:Nat)(p0:Int):Option (ByteArray×Int):=
 e335 qq p0>>=fun r1=>
 if r1 then
 e436 qq p0>>=fun r4=>
 if r4==1 then
 some ((gstr [(IntKind.u8.wrap (p0))]),0)
 else
 none
 else
 none
abbrev K338 (p0:Int) (r:ByteArray×Int) (C:Cf):Prop:=C 338 [] [ai p0] (.tup [at' r.1,ai r.2]) [] 0
theorem q338:Qf 338 Tryz.f338:=⟨Tryz.func338,by kernel_rfl⟩
theorem k338{p0 r}(h:K338 p0 r Ci):K338 p0 r Ct:=⟨h,⟨tv,tv⟩,forall_nil,⟨tv,tv,tv⟩,forall_nil⟩
theorem c338{qq p0 r}(h:e338 qq p0=some r):K338 p0 r Ct:=by
 unfold e338 at h
 obtain⟨r1,h2,h⟩:=obind h
 obtain⟨h3,h⟩:=spT h
 obtain⟨r4,h5,h⟩:=obind h
 have k:=oC 1 [] (c436 h5)<|oK 0 [] h3 (c335 h2) o0
 obtain⟨h6,h⟩:=spT h
 obtain rfl:=sj h
 exact k338 (tF q338 0 [] (oA 2 (cv264_9 [(IntKind.u8.wrap (p0))] (o:=.full))<|oB 0 h6 k))
def e234Lat:Nat->(List Int)->Int->(List Int)->Int->Option (List Int)
 |0,_,_,_,_=>none
 |qq+1,p0,v11,v3,v4=>
 if decide (v11<(List.length p0:Int))then
 gidx p0 v11>>=fun x2=>
 gapp 8 v3 [v4]>>=fun l4=>
 e338 qq x2>>=fun r6=>
 e234Lat qq p0 (w64 (v11+1)) l4 (w64 (v4+(r6.1.size:Int)))
 else
 some v3
def e234(qq:Nat)(p0:List Int):Option (List Int):=
 e234Lat qq p0 0 [] 0
def g234LatE0(j:Nat->Value)(p0:List Int)(v11:Int)(v3:List Int)(v4:Int):=sp j 30 0 [(3,slv intC v3 (.st 0 1)),(4,ai v4),(9,slv intC p0 .no),(10,ai (List.length p0:Int)),(11,ai v11)]
def g234LatS0(p0:List Int)(v11:Int)(v3:List Int)(v4:Int):LSt:=⟨[],0,[0],1,[]⟩
abbrev K234 (p0 r:List Int) (C:Cf):Prop:=C 234 [] [slv intC p0 .no] (.sl (flat intC r) (List.length r) .no) [] 0
theorem q234:Qf 234 Tryz.f234:=⟨Tryz.func234,by kernel_rfl⟩
theorem k234{p0 r}(h:K234 p0 r Ci):K234 p0 r Ct:=⟨h,⟨⟨tv,dI _⟩,tv⟩,forall_nil,dI _,forall_nil⟩
theorem l234Lat:∀qq:Nat,(∀p0 v11 v3 v4 r,e234Lat qq p0 v11 v3 v4=some r->(∀j,Dl Tryz.prog 0 (inn (inn (rgt (lft (rgt (rgt (rgt (bod Tryz.f234)))))))) (g234LatE0 j p0 v11 v3 v4) (g234LatS0 p0 v11 v3 v4) (frameQ Tryz.prog 0 (FinQ Tryz.prog 0 Tryz.f234 (.sl (flat intC r) (List.length r) .no) [] 0) [.blk 0,.seq (rgt (rgt (rgt (rgt (bod Tryz.f234)))))]))):=by
 intro qq
 induction qq with
 |zero=>
  exact fun _ _ _ _ _ h=>nn h
 |succ qq ih=>
  intro p0 v11 v3 v4 r h
  rw[e234Lat]at h
  rcases spl h with⟨h1,h⟩|⟨h1,h⟩
  obtain⟨x2,h3,h⟩:=obind h
  obtain⟨l4,h5,h⟩:=obind h
  obtain⟨r6,h7,h⟩:=obind h
  exact fun j=>lH 5 [] [] [1] [3,4,9,10,11] (oD (dI p0)<|oD (dI l4)<|oC 0 [] (c338 h7)<|oP 2 (apS24 h5 (by simp))<|oA 0 (ix24 (o:=.no) h3)<|oB 0 h1 o0) (ih _ _ _ _ _ h)
  obtain rfl:=sj h
  exact fun j=>lF 0 [] (oD (dI v3)<|oB 0 h1 o0)
theorem c234{qq p0 r}(h:e234 qq p0=some r):K234 p0 r Ct:=by
 unfold e234 at h
 exact k234 (tH q234 1 [(none,3,1)] [] [0] [3,4,9,10,11] (oD (dI p0)<|oD (dI ([]:List Int)) o0) (l234Lat _ _ _ _ _ _ h))
def e339(qq:Nat)(p0:Int):Option (Bool):=
 if p0==9 then
 none
 else
 if p0==10 then
 none
 else
 if p0==13 then
 none
 else
 some (p0==32)
abbrev K339 (p0:Int) (r:Bool) (C:Cf):Prop:=C 339 [] [ai p0] (ab r) [] 0
theorem q339:Qf 339 Tryz.f339:=⟨Tryz.func339,by kernel_rfl⟩
theorem k339{p0 r}(h:K339 p0 r Ci):K339 p0 r Ct:=⟨h,⟨tv,tv⟩,forall_nil,tv,forall_nil⟩
theorem c339{qq p0 r}(h:e339 qq p0=some r):K339 p0 r Ct:=by
 unfold e339 at h
 obtain⟨h1,h⟩:=splF h
 have k:=oB 0 h1 o0
 obtain⟨h2,h⟩:=splF h
 have k:=oB 0 h2 k
 obtain⟨h3,h⟩:=splF h
 obtain rfl:=sj h
 exact k339 (tF q339 1 [] (oB 0 h3 k))
def e340(qq:Nat)(q0_signs q0_at:List Int)(q0_i p1:Int):Option (Int):=
 if decide ((w64 (q0_i+p1))≥(List.length q0_signs:Int))then
 none
 else
 gidx q0_signs (w64 (q0_i+p1))>>=fun x2=>
 some x2
abbrev K340 (q0_signs q0_at:List Int) (q0_i p1 r:Int) (C:Cf):Prop:=C 340 [.cells [slv intC q0_signs .no,slv intC q0_at .no,ai q0_i]] [.mp 0 0,ai p1] (ai r) [.cells [slv intC q0_signs .no,slv intC q0_at .no,ai q0_i]] 0
theorem q340:Qf 340 Tryz.f340:=⟨Tryz.func340,by kernel_rfl⟩
theorem k340{q0_signs q0_at q0_i p1 r}(h:K340 q0_signs q0_at q0_i p1 r Ci):K340 q0_signs q0_at q0_i p1 r Ct:=⟨h,⟨(lz rfl),tv,tv⟩,(forall_cons ⟨⟨tv,dI _⟩,⟨tv,dI _⟩,tv,tv⟩ forall_nil),tv,(forall_cons ⟨dI _,dI _,tv,tv⟩ forall_nil)⟩
theorem c340{qq q0_signs q0_at q0_i p1 r}(h:e340 qq q0_signs q0_at q0_i p1=some r):K340 q0_signs q0_at q0_i p1 r Ct:=by
 unfold e340 at h
 obtain⟨h1,h⟩:=splF h
 obtain⟨x2,h3,h⟩:=obind h
 obtain rfl:=sj h
 exact k340 (tF q340 1 [0] (oD (dI q0_at)<|oD (dI q0_signs)<|oA 3 (ix24 (o:=.no) h3)<|oB 4 h1 o0))
def e341(qq:Nat)(q0_signs q0_at:List Int)(q0_i p1 p2:Int):Option (Bool):=
 e340 qq q0_signs q0_at q0_i 0>>=fun r1=>
 if r1==p1 then
 e340 qq q0_signs q0_at q0_i 1>>=fun r4=>
 some (r4==p2)
 else
 some false
abbrev K341 (q0_signs q0_at:List Int) (q0_i p1 p2:Int) (r:Bool) (C:Cf):Prop:=C 341 [.cells [slv intC q0_signs .no,slv intC q0_at .no,ai q0_i]] [.mp 0 0,ai p1,ai p2] (ab r) [.cells [slv intC q0_signs .no,slv intC q0_at .no,ai q0_i]] 0
theorem q341:Qf 341 Tryz.f341:=⟨Tryz.func341,by kernel_rfl⟩
theorem k341{q0_signs q0_at q0_i p1 p2 r}(h:K341 q0_signs q0_at q0_i p1 p2 r Ci):K341 q0_signs q0_at q0_i p1 p2 r Ct:=⟨h,⟨(lz rfl),tv,tv,tv⟩,(forall_cons ⟨⟨tv,dI _⟩,⟨tv,dI _⟩,tv,tv⟩ forall_nil),tv,(forall_cons ⟨dI _,dI _,tv,tv⟩ forall_nil)⟩
theorem c341{qq q0_signs q0_at q0_i p1 p2 r}(h:e341 qq q0_signs q0_at q0_i p1 p2=some r):K341 q0_signs q0_at q0_i p1 p2 r Ct:=by
 unfold e341 at h
 obtain⟨r1,h2,h⟩:=obind h
 have k:=oC 0 [0] (c340 h2) o0
 rcases spl h with⟨h3,h⟩|⟨h3,h⟩
 obtain⟨r4,h5,h⟩:=obind h
 obtain rfl:=sj h
 exact k341 (tF q341 1 [0] (oD (dI q0_at)<|oD (dI q0_signs)<|oC 0 [0] (c340 h5)<|oB 0 h3 k))
 obtain rfl:=sj h
 exact k341 (tF q341 0 [0] (oD (dI q0_at)<|oD (dI q0_signs)<|oB 0 h3 k))
def e235Lau:Nat->(List Int)->(List Int)->Int->Option (Int×Bool×Int)
 |0,_,_,_=>none
 |qq+1,q0_signs,q0_at,vb0_2=>
 if decide (vb0_2<(List.length q0_signs:Int))then
 e340 qq q0_signs q0_at vb0_2 0>>=fun r2=>
 e339 qq r2>>=fun r4=>
 if r4 then
 e235Lau qq q0_signs q0_at (w64 (vb0_2+1))
 else
 e341 qq q0_signs q0_at vb0_2 45 45>>=fun r7=>
 if r7 then
 none
 else
 e341 qq q0_signs q0_at vb0_2 123 45>>=fun r12=>
 if r12 then
 none
 else
 some (0,true,vb0_2)
 else
 some (0,true,vb0_2)
def e235(qq:Nat)(q0_signs q0_at:List Int)(q0_i:Int):Option (Int×Bool×Int):=
 e235Lau qq q0_signs q0_at q0_i
def g235LauE0(j:Nat->Value)(q0_signs q0_at:List Int)(vb0_2:Int):=sp j 48 0 [(0,.mp 0 0)]
def g235LauS0(q0_signs q0_at:List Int)(vb0_2:Int):LSt:=⟨[(0,.cells [slv intC q0_signs .no,slv intC q0_at .no,ai vb0_2])],1,[],0,[]⟩
abbrev K235 (q0_signs q0_at:List Int) (q0_i:Int) (r:Int×Bool×Int) (C:Cf):Prop:=C 235 [.cells [slv intC q0_signs .no,slv intC q0_at .no,ai q0_i]] [.mp 0 0] (.tup [ai r.1,ab r.2.1]) [.cells [slv intC q0_signs .no,slv intC q0_at .no,ai r.2.2]] 0
theorem q235:Qf 235 Tryz.f235:=⟨Tryz.func235,by kernel_rfl⟩
theorem k235{q0_signs q0_at q0_i r}(h:K235 q0_signs q0_at q0_i r Ci):K235 q0_signs q0_at q0_i r Ct:=⟨h,⟨(lz rfl),tv⟩,(forall_cons ⟨⟨tv,dI _⟩,⟨tv,dI _⟩,tv,tv⟩ forall_nil),⟨tv,tv,tv⟩,(forall_cons ⟨dI _,dI _,tv,tv⟩ forall_nil)⟩
theorem l235Lau:∀qq:Nat,(∀q0_signs q0_at vb0_2 r,e235Lau qq q0_signs q0_at vb0_2=some r->(∀j,Dl Tryz.prog 1 (inn (inn (lft (rgt (bod Tryz.f235))))) (g235LauE0 j q0_signs q0_at vb0_2) (g235LauS0 q0_signs q0_at vb0_2) (frameQ Tryz.prog 1 (FinQ Tryz.prog 1 Tryz.f235 (.tup [ai r.1,ab r.2.1]) [.cells [slv intC q0_signs .no,slv intC q0_at .no,ai r.2.2]] 0) [.blk 0,.seq (rgt (rgt (bod Tryz.f235)))]))):=by
 intro qq
 induction qq with
 |zero=>
  exact fun _ _ _ _ h=>nn h
 |succ qq ih=>
  intro q0_signs q0_at vb0_2 r h
  rw[e235Lau]at h
  rcases spl h with⟨h1,h⟩|⟨h1,h⟩
  obtain⟨r2,h3,h⟩:=obind h
  obtain⟨r4,h5,h⟩:=obind h
  have k:=oC 0 [0] (c340 h3)<|oB 3 h1 o0
  rcases spl h with⟨h6,h⟩|⟨h6,h⟩
  exact fun j=>lH 3 [] [0] [] [0] (oD (dI q0_at)<|oD (dI q0_signs)<|oK 0 [] h6 (c339 h5) k) (ih _ _ _ _ h)
  obtain⟨r7,h8,h⟩:=obind h
  have k:=oK 0 [] h6 (c339 h5) k
  obtain⟨h9,h⟩:=splF h
  obtain⟨r12,h13,h⟩:=obind h
  have k:=oK 0 [0] h9 (c341 h8) k
  obtain⟨h14,h⟩:=splF h
  obtain rfl:=sj h
  exact fun j=>lF 0 [0] (oD (dI q0_at)<|oD (dI q0_signs)<|oK 0 [0] h14 (c341 h13) k)
  obtain rfl:=sj h
  exact fun j=>lF 0 [0] (oD (dI q0_at)<|oD (dI q0_signs)<|oB 3 h1 o0)
theorem c235{qq q0_signs q0_at q0_i r}(h:e235 qq q0_signs q0_at q0_i=some r):K235 q0_signs q0_at q0_i r Ct:=by
 unfold e235 at h
 exact k235 (tH q235 0 [] [0] [] [0] (oD (dI q0_at)<|oD (dI q0_signs) o0) (l235Lau _ _ _ _ _ h))
def e334(qq:Nat)(p0:Int):Option (Bool):=
 if decide (p0≥48)then
 some (decide (p0≤57))
 else
 some false
abbrev K334 (p0:Int) (r:Bool) (C:Cf):Prop:=C 334 [] [ai p0] (ab r) [] 0
theorem q334:Qf 334 Tryz.f334:=⟨Tryz.func334,by kernel_rfl⟩
theorem k334{p0 r}(h:K334 p0 r Ci):K334 p0 r Ct:=⟨h,⟨tv,tv⟩,forall_nil,tv,forall_nil⟩
theorem c334{qq p0 r}(h:e334 qq p0=some r):K334 p0 r Ct:=by
 unfold e334 at h
 rcases spl h with⟨h1,h⟩|⟨h1,h⟩
 obtain rfl:=sj h
 exact k334 (tF q334 1 [] (oB 0 h1 o0))
 obtain rfl:=sj h
 exact k334 (tF q334 0 [] (oB 0 h1 o0))
def e345(qq:Nat)(p0:Int):Option (Bool):=
 e227 qq p0>>=fun r1=>
 if r1 then
 some true
 else
 e334 qq p0>>=fun r4=>
 if r4 then
 none
 else
 if p0==95 then
 none
 else
 some (p0==39)
abbrev K345 (p0:Int) (r:Bool) (C:Cf):Prop:=C 345 [] [ai p0] (ab r) [] 0
theorem q345:Qf 345 Tryz.f345:=⟨Tryz.func345,by kernel_rfl⟩
theorem k345{p0 r}(h:K345 p0 r Ci):K345 p0 r Ct:=⟨h,⟨tv,tv⟩,forall_nil,tv,forall_nil⟩
theorem c345{qq p0 r}(h:e345 qq p0=some r):K345 p0 r Ct:=by
 unfold e345 at h
 obtain⟨r1,h2,h⟩:=obind h
 rcases spl h with⟨h3,h⟩|⟨h3,h⟩
 obtain rfl:=sj h
 exact k345 (tF q345 0 [] (oK 0 [] h3 (c227 h2) o0))
 obtain⟨r4,h5,h⟩:=obind h
 have k:=oK 0 [] h3 (c227 h2) o0
 obtain⟨h6,h⟩:=splF h
 have k:=oK 0 [] h6 (c334 h5) k
 obtain⟨h7,h⟩:=splF h
 obtain rfl:=sj h
 exact k345 (tF q345 1 [] (oB 0 h7 k))
def e437Lav:Nat->(List Int)->Int->(List U8)->Option (ByteArray×Int)
 |0,_,_,_=>none
 |qq+1,p0,v23,v6=>
 if decide (v23<(List.length p0:Int))then
 gidx p0 v23>>=fun x8=>
 e338 qq x8>>=fun r10=>
 if decide ((w64 ((List.length v6:Int)+(r10.1.size:Int)))>65535)then
 none
 else
 gapp 1 v6 (gbs r10.1)>>=fun l13=>
 e437Lav qq p0 (w64 (v23+1)) l13
 else
 some ((gstr v6),0)
def e437Law:Nat->(List Int)->Int->Option (ByteArray×Int)
 |0,_,_=>none
 |qq+1,p0,v13=>
 if decide (v13<(List.length p0:Int))then
 gidx p0 v13>>=fun x2=>
 e335 qq x2>>=fun r4=>
 if r4 then
 e437Law qq p0 (w64 (v13+1))
 else
 none
 else
 e437Lav qq p0 0 []
def e437(qq:Nat)(p0:List Int):Option (ByteArray×Int):=
 e437Law qq p0 0
def g437LawE0(j:Nat->Value)(p0:List Int)(v13:Int):=sp j 44 0 [(0,slv intC p0 .no),(11,slv intC p0 .no),(12,ai (List.length p0:Int)),(13,ai v13)]
def g437LawS0(p0:List Int)(v13:Int):LSt:=⟨[],0,[],0,[]⟩
def g437LavE0(j:Nat->Value)(p0:List Int)(v23:Int)(v6:List U8):=sp j 44 0 [(6,slv u8C v6 (.st 0 1)),(21,slv intC p0 .no),(22,ai (List.length p0:Int)),(23,ai v23)]
def g437LavS0(p0:List Int)(v23:Int)(v6:List U8):LSt:=⟨[],0,[0],1,[]⟩
abbrev K437 (p0:List Int) (r:ByteArray×Int) (C:Cf):Prop:=C 437 [] [slv intC p0 .no] (.tup [at' r.1,ai r.2]) [] 0
theorem q437:Qf 437 Tryz.f437:=⟨Tryz.func437,by kernel_rfl⟩
theorem k437{p0 r}(h:K437 p0 r Ci):K437 p0 r Ct:=⟨h,⟨⟨tv,dI _⟩,tv⟩,forall_nil,⟨tv,tv,tv⟩,forall_nil⟩
theorem l437Lav:∀qq:Nat,(∀p0 v23 v6 r,e437Lav qq p0 v23 v6=some r->(∀j,Dl Tryz.prog 0 (inn (inn (rgt (lft (rgt (rgt (rgt (bod Tryz.f437)))))))) (g437LavE0 j p0 v23 v6) (g437LavS0 p0 v23 v6) (frameQ Tryz.prog 0 (FinQ Tryz.prog 0 Tryz.f437 (.tup [at' r.1,ai r.2]) [] 0) [.blk 2,.seq (rgt (rgt (rgt (rgt (bod Tryz.f437)))))]))):=by
 intro qq
 induction qq with
 |zero=>
  exact fun _ _ _ _ h=>nn h
 |succ qq ih=>
  intro p0 v23 v6 r h
  rw[e437Lav]at h
  rcases spl h with⟨h7,h⟩|⟨h7,h⟩
  obtain⟨x8,h9,h⟩:=obind h
  obtain⟨r10,h11,h⟩:=obind h
  have k:=oC 1 [] (c338 h11)<|oA 0 (ix24 (o:=.no) h9)<|oB 0 h7 o0
  obtain⟨h12,h⟩:=splF h
  obtain⟨l13,h14,h⟩:=obind h
  have k:=oB 5 h12 k
  by_cases h15:List.length (gbs r10.1)=0
  exact fun j=>lH 1 [] [] [0] [6,21,22,23] (oD (dI p0)<|oD (dU l13)<|oPs 0 (apTN264_9 h14 h15) k) (ih _ _ _ _ h)
  exact fun j=>lH 1 [] [] [1] [6,21,22,23] (oD (dI p0)<|oD (dU l13)<|oPs 0 (apT264_9 h14 h15) k) (ih _ _ _ _ h)
  obtain rfl:=sj h
  exact fun j=>lF 0 [] (oA 0 (cv264_9 v6 (o:=(.st 0 1)))<|oB 0 h7 o0)
theorem l437Law:∀qq:Nat,(∀p0 v13 r,e437Law qq p0 v13=some r->(∀j,Dl Tryz.prog 0 (inn (inn (rgt (lft (rgt (bod Tryz.f437)))))) (g437LawE0 j p0 v13) (g437LawS0 p0 v13) (frameQ Tryz.prog 0 (FinQ Tryz.prog 0 Tryz.f437 (.tup [at' r.1,ai r.2]) [] 0) [.blk 0,.seq (rgt (rgt (bod Tryz.f437)))]))):=by
 intro qq
 induction qq with
 |zero=>
  exact fun _ _ _ h=>nn h
 |succ qq ih=>
  intro p0 v13 r h
  rw[e437Law]at h
  rcases spl h with⟨h1,h⟩|⟨h1,h⟩
  obtain⟨x2,h3,h⟩:=obind h
  obtain⟨r4,h5,h⟩:=obind h
  have k:=oA 0 (ix24 (o:=.no) h3)<|oB 0 h1 o0
  obtain⟨h6,h⟩:=spT h
  exact fun j=>lH 2 [] [] [] [0,11,12,13] (oD (dI p0)<|oD (dI p0)<|oK 1 [] h6 (c335 h5) k) (ih _ _ _ h)
  exact fun j=>lH 1 [(none,6,1)] [] [0] [6,21,22,23] (oD (dI p0)<|oD (dU ([]:List U8))<|oB 0 h1 o0) (l437Lav _ _ _ _ _ h)
theorem c437{qq p0 r}(h:e437 qq p0=some r):K437 p0 r Ct:=by
 unfold e437 at h
 exact k437 (tH q437 1 [] [] [] [0,11,12,13] (oD (dI p0)<|oD (dI p0) o0) (l437Law _ _ _ _ h))
def e344vaaxLay:Nat->(List Int)->(List Int)->Int->Int->Option (ByteArray×Int)
 |0,_,_,_,_=>none
 |qq+1,q0,q1,q2,vb0_2=>
 if decide (vb0_2<(List.length q0:Int))then
 e340 qq q0 q1 vb0_2 0>>=fun r2=>
 e345 qq r2>>=fun r4=>
 if r4 then
 e344vaaxLay qq q0 q1 q2 (w64 (vb0_2+1))
 else
 gsl q0 q2 vb0_2>>=fun x7=>
 e437 qq x7>>=fun r9=>
 some (r9.1,vb0_2)
 else
 gsl q0 q2 vb0_2>>=fun x11=>
 e437 qq x11>>=fun r13=>
 some (r13.1,vb0_2)
def e344vaax(qq:Nat)(q0 q1:List Int)(q2:Int):Option (ByteArray×Int):=
 e344vaaxLay qq q0 q1 q2 q2
def g344vaaxLayE0(j:Nat->Value)(q0 q1:List Int)(q2 vb0_2:Int):=sp j 50 0 [(0,.mp 0 0),(1,.clo 345 [] []),(5,ai q2)]
def g344vaaxLayS0(q0 q1:List Int)(q2 vb0_2:Int):LSt:=⟨[(0,.cells [slv intC q0 .no,slv intC q1 .no,ai vb0_2])],1,[],0,[]⟩
abbrev K344vaax (q0 q1:List Int) (q2:Int) (r:ByteArray×Int) (C:Cf):Prop:=C 344 [.cells [slv intC q0 .no,slv intC q1 .no,ai q2]] [.mp 0 0,.clo 345 [] []] (at' r.1) [.cells [slv intC q0 .no,slv intC q1 .no,ai r.2]] 0
theorem q344vaax:Qf 344 Tryz.f344:=⟨Tryz.func344,by kernel_rfl⟩
theorem k344vaax{q0 q1 q2 r}(h:K344vaax q0 q1 q2 r Ci):K344vaax q0 q1 q2 r Ct:=⟨h,⟨(lz rfl),⟨tv,tv⟩,tv⟩,(forall_cons ⟨⟨tv,dI _⟩,⟨tv,dI _⟩,tv,tv⟩ forall_nil),tv,(forall_cons ⟨dI _,dI _,tv,tv⟩ forall_nil)⟩
theorem l344vaaxLay:∀qq:Nat,(∀q0 q1 q2 vb0_2 r,e344vaaxLay qq q0 q1 q2 vb0_2=some r->(∀j,Dl Tryz.prog 1 (inn (inn (lft (rgt (rgt (bod Tryz.f344)))))) (g344vaaxLayE0 j q0 q1 q2 vb0_2) (g344vaaxLayS0 q0 q1 q2 vb0_2) (frameQ Tryz.prog 1 (FinQ Tryz.prog 1 Tryz.f344 (at' r.1) [.cells [slv intC q0 .no,slv intC q1 .no,ai r.2]] 0) [.blk 0,.seq (rgt (rgt (rgt (bod Tryz.f344))))]))):=by
 intro qq
 induction qq with
 |zero=>
  exact fun _ _ _ _ _ h=>nn h
 |succ qq ih=>
  intro q0 q1 q2 vb0_2 r h
  rw[e344vaaxLay]at h
  rcases spl h with⟨h1,h⟩|⟨h1,h⟩
  obtain⟨r2,h3,h⟩:=obind h
  obtain⟨r4,h5,h⟩:=obind h
  have k:=oC 0 [0] (c340 h3)<|oB 3 h1 o0
  rcases spl h with⟨h6,h⟩|⟨h6,h⟩
  exact fun j=>lH 3 [] [0] [] [0,1,5] (oD (dI q1)<|oD (dI q0)<|oK 0 [] h6 (c345 h5) k) (ih _ _ _ _ _ h)
  obtain⟨x7,h8,h⟩:=obind h
  obtain⟨r9,h10,h⟩:=obind h
  obtain rfl:=sj h
  exact fun j=>lF 2 [0] (oD (dI q1)<|oD (dI q0)<|oC 0 [] (c437 h10)<|oA 2 (sl24 h8)<|oK 0 [] h6 (c345 h5) k)
  obtain⟨x11,h12,h⟩:=obind h
  obtain⟨r13,h14,h⟩:=obind h
  obtain rfl:=sj h
  exact fun j=>lF 2 [0] (oD (dI q1)<|oD (dI q0)<|oC 0 [] (c437 h14)<|oA 2 (sl24 h12)<|oB 3 h1 o0)
theorem c344vaax{qq q0 q1 q2 r}(h:e344vaax qq q0 q1 q2=some r):K344vaax q0 q1 q2 r Ct:=by
 unfold e344vaax at h
 exact k344vaax (tH q344vaax 1 [] [0] [] [0,1,5] (oD (dI q1)<|oD (dI q0) o0) (l344vaaxLay _ _ _ _ _ _ h))
def e347(qq:Nat)(q0_signs q0_at:List Int)(q0_i:Int):Option (ByteArray×Int):=
 e340 qq q0_signs q0_at q0_i 0>>=fun r1=>
 if r1==40 then
 none
 else
 if r1==41 then
 none
 else
 if r1==123 then
 some ((gstr [(IntKind.u8.wrap (r1))]),1)
 else
 if r1==125 then
 some ((gstr [(IntKind.u8.wrap (r1))]),1)
 else
 if r1==58 then
 some ((gstr [(IntKind.u8.wrap (r1))]),1)
 else
 if r1==61 then
 none
 else
 if r1==46 then
 none
 else
 if r1==44 then
 none
 else
 if r1==59 then
 some ((gstr [(IntKind.u8.wrap (r1))]),1)
 else
 none
abbrev K347 (q0_signs q0_at:List Int) (q0_i:Int) (r:ByteArray×Int) (C:Cf):Prop:=C 347 [.cells [slv intC q0_signs .no,slv intC q0_at .no,ai q0_i]] [.mp 0 0] (.tup [at' r.1,ai r.2]) [.cells [slv intC q0_signs .no,slv intC q0_at .no,ai q0_i]] 0
theorem q347:Qf 347 Tryz.f347:=⟨Tryz.func347,by kernel_rfl⟩
theorem k347{q0_signs q0_at q0_i r}(h:K347 q0_signs q0_at q0_i r Ci):K347 q0_signs q0_at q0_i r Ct:=⟨h,⟨(lz rfl),tv⟩,(forall_cons ⟨⟨tv,dI _⟩,⟨tv,dI _⟩,tv,tv⟩ forall_nil),⟨tv,tv,tv⟩,(forall_cons ⟨dI _,dI _,tv,tv⟩ forall_nil)⟩
theorem c347{qq q0_signs q0_at q0_i r}(h:e347 qq q0_signs q0_at q0_i=some r):K347 q0_signs q0_at q0_i r Ct:=by
 unfold e347 at h
 obtain⟨r1,h2,h⟩:=obind h
 have k:=oC 0 [0] (c340 h2) o0
 obtain⟨h3,h⟩:=splF h
 have k:=oB 0 h3 k
 obtain⟨h4,h⟩:=splF h
 have k:=oB 0 h4 k
 rcases spl h with⟨h5,h⟩|⟨h5,h⟩
 obtain rfl:=sj h
 exact k347 (tF q347 0 [0] (oD (dI q0_at)<|oD (dI q0_signs)<|oA 2 (cv264_9 [(IntKind.u8.wrap (r1))] (o:=.full))<|oB 0 h5 k))
 have k:=oB 0 h5 k
 rcases spl h with⟨h6,h⟩|⟨h6,h⟩
 obtain rfl:=sj h
 exact k347 (tF q347 0 [0] (oD (dI q0_at)<|oD (dI q0_signs)<|oA 2 (cv264_9 [(IntKind.u8.wrap (r1))] (o:=.full))<|oB 0 h6 k))
 have k:=oB 0 h6 k
 rcases spl h with⟨h7,h⟩|⟨h7,h⟩
 obtain rfl:=sj h
 exact k347 (tF q347 0 [0] (oD (dI q0_at)<|oD (dI q0_signs)<|oA 2 (cv264_9 [(IntKind.u8.wrap (r1))] (o:=.full))<|oB 0 h7 k))
 have k:=oB 0 h7 k
 obtain⟨h8,h⟩:=splF h
 have k:=oB 0 h8 k
 obtain⟨h9,h⟩:=splF h
 have k:=oB 0 h9 k
 obtain⟨h10,h⟩:=splF h
 have k:=oB 0 h10 k
 obtain⟨h11,h⟩:=spT h
 obtain rfl:=sj h
 exact k347 (tF q347 0 [0] (oD (dI q0_at)<|oD (dI q0_signs)<|oA 2 (cv264_9 [(IntKind.u8.wrap (r1))] (o:=.full))<|oB 0 h11 k))
def e236(qq:Nat)(q0_signs q0_at:List Int)(q0_i:Int):Option (TokenToken×Bool×Int):=
 gidx q0_at q0_i>>=fun x1=>
 e340 qq q0_signs q0_at q0_i 0>>=fun r3=>
 e227 qq r3>>=fun r5=>
 if r5 then
 e344vaax qq q0_signs q0_at q0_i>>=fun r8=>
 e225 qq r8.1>>=fun r10=>
 if r10 then
 some ((TokenToken.mk 2 r8.1 x1),true,r8.2)
 else
 if r8.1.toList==(⟨#[95]⟩:ByteArray).toList then
 none
 else
 e133 qq r8.1>>=fun r14=>
 some ((TokenToken.mk 1 r8.1 x1),r14,r8.2)
 else
 if r3==95 then
 none
 else
 e334 qq r3>>=fun r25=>
 if r25 then
 none
 else
 e347 qq q0_signs q0_at q0_i>>=fun r37=>
 some ((TokenToken.mk 4 r37.1 x1),decide (r37.2>0),(w64 (q0_i+r37.2)))
abbrev K236 (q0_signs q0_at:List Int) (q0_i:Int) (r:TokenToken×Bool×Int) (C:Cf):Prop:=C 236 [.cells [slv intC q0_signs .no,slv intC q0_at .no,ai q0_i]] [.mp 0 0] (.tup [tokenTokenA r.1,ab r.2.1]) [.cells [slv intC q0_signs .no,slv intC q0_at .no,ai r.2.2]] 0
theorem q236:Qf 236 Tryz.f236:=⟨Tryz.func236,by kernel_rfl⟩
theorem k236{q0_signs q0_at q0_i r}(h:K236 q0_signs q0_at q0_i r Ci):K236 q0_signs q0_at q0_i r Ct:=⟨h,⟨(lz rfl),tv⟩,(forall_cons ⟨⟨tv,dI _⟩,⟨tv,dI _⟩,tv,tv⟩ forall_nil),⟨⟨tv,tv,tv,tv⟩,tv,tv⟩,(forall_cons ⟨dI _,dI _,tv,tv⟩ forall_nil)⟩
theorem c236{qq q0_signs q0_at q0_i r}(h:e236 qq q0_signs q0_at q0_i=some r):K236 q0_signs q0_at q0_i r Ct:=by
 unfold e236 at h
 obtain⟨x1,h2,h⟩:=obind h
 obtain⟨r3,h4,h⟩:=obind h
 obtain⟨r5,h6,h⟩:=obind h
 have k:=oC 2 [0] (c340 h4)<|oA 2 (ix24 (o:=.no) h2) o0
 rcases spl h with⟨h7,h⟩|⟨h7,h⟩
 obtain⟨r8,h9,h⟩:=obind h
 obtain⟨r10,h11,h⟩:=obind h
 have k:=oC 0 [0] (c344vaax h9)<|oK 0 [] h7 (c227 h6) k
 rcases spl h with⟨h12,h⟩|⟨h12,h⟩
 obtain rfl:=sj h
 exact k236 (tF q236 5 [0] (oD (dI q0_at)<|oD (dI q0_signs)<|oK 3 [] h12 (c225 h11) k))
 have k:=oK 3 [] h12 (c225 h11) k
 obtain⟨h13,h⟩:=splF h
 obtain⟨r14,h15,h⟩:=obind h
 obtain rfl:=sj h
 exact k236 (tF q236 1 [0] (oD (dI q0_at)<|oD (dI q0_signs)<|oC 1 [] (c133 h15)<|oB 4 h13 k))
 have k:=oK 0 [] h7 (c227 h6) k
 obtain⟨h16,h⟩:=splF h
 obtain⟨r25,h26,h⟩:=obind h
 have k:=oB 0 h16 k
 obtain⟨h27,h⟩:=splF h
 obtain⟨r37,h38,h⟩:=obind h
 obtain rfl:=sj h
 exact k236 (tF q236 10 [0] (oD (dI q0_at)<|oD (dI q0_signs)<|oC 0 [0] (c347 h38)<|oK 0 [] h27 (c334 h26) k))
def e139Laz:Nat->ByteArray->(List Int×Int×Int)->(List Int)->(List TokenToken)->Int->Option (List TokenToken×Int×Int)
 |0,_,_,_,_,_=>none
 |qq+1,p0,r1,r4,v9,vb0_2=>
 e235 qq r1.1 r4 vb0_2>>=fun r6=>
 if r6.2.1 then
 if decide (r6.2.2≥(List.length r1.1:Int))then
 gapp 32 v9 [(TokenToken.mk 5 (⟨#[]⟩:ByteArray) (p0.size:Int))]>>=fun l10=>
 some (l10,(p0.size:Int),0)
 else
 if decide ((List.length v9:Int)≥8192)then
 none
 else
 e236 qq r1.1 r4 r6.2.2>>=fun r15=>
 if r15.2.1 then
 gapp 32 v9 [r15.1]>>=fun l18=>
 e139Laz qq p0 r1 r4 l18 r15.2.2
 else
 none
 else
 none
def e139(qq:Nat)(p0:ByteArray):Option (List TokenToken×Int×Int):=
 e224 qq p0>>=fun r1=>
 if r1.2.2 != 0 then
 none
 else
 e234 qq r1.1>>=fun r4=>
 e139Laz qq p0 r1 r4 [] 0
def g139LazE0(j:Nat->Value)(p0:ByteArray)(r1:List Int×Int×Int)(r4:List Int)(v9:List TokenToken)(vb0_2:Int):=sp j 81 0 [(0,at' p0),(8,.mp 0 0),(9,slv tokenTokenL v9 (.st 0 3))]
def g139LazS0(p0:ByteArray)(r1:List Int×Int×Int)(r4:List Int)(v9:List TokenToken)(vb0_2:Int):LSt:=⟨[(0,.cells [slv intC r1.1 .no,slv intC r4 .no,ai vb0_2])],1,[0],1,[]⟩
abbrev K139 (p0:ByteArray) (r:List TokenToken×Int×Int) (C:Cf):Prop:=C 139 [] [at' p0] (.tup [.sl (flat tokenTokenL r.1) (List.length r.1) .no,ai r.2.1,ai r.2.2]) [] 0
theorem q139:Qf 139 Tryz.f139:=⟨Tryz.func139,by kernel_rfl⟩
theorem k139{p0 r}(h:K139 p0 r Ci):K139 p0 r Ct:=⟨h,⟨tv,tv⟩,forall_nil,⟨dTokenToken _,tv,tv,tv⟩,forall_nil⟩
theorem l139Laz:∀qq:Nat,(∀p0 r1 r4 v9 vb0_2 r,e139Laz qq p0 r1 r4 v9 vb0_2=some r->(∀j,Dl Tryz.prog 0 (inn (inn (lft (rgt (rgt (rgt (rgt (rgt (bod Tryz.f139))))))))) (g139LazE0 j p0 r1 r4 v9 vb0_2) (g139LazS0 p0 r1 r4 v9 vb0_2) (frameQ Tryz.prog 0 (FinQ Tryz.prog 0 Tryz.f139 (.tup [.sl (flat tokenTokenL r.1) (List.length r.1) .no,ai r.2.1,ai r.2.2]) [] 0) [.blk 0,.seq (rgt (rgt (rgt (rgt (rgt (rgt (bod Tryz.f139)))))))]))):=by
 intro qq
 induction qq with
 |zero=>
  exact fun _ _ _ _ _ _ h=>nn h
 |succ qq ih=>
  intro p0 r1 r4 v9 vb0_2 r h
  rw[e139Laz]at h
  obtain⟨r6,h7,h⟩:=obind h
  have k:=oC 0 [0] (c235 h7) o0
  obtain⟨h8,h⟩:=spT h
  have k:=oB 1 h8 k
  rcases spl h with⟨h9,h⟩|⟨h9,h⟩
  obtain⟨l10,h11,h⟩:=obind h
  obtain rfl:=sj h
  exact fun j=>lF 1 [] (oD (dTokenToken l10)<|oP 2 (apS177 h11 (by simp))<|oB 4 h9 k)
  have k:=oB 4 h9 k
  obtain⟨h12,h⟩:=splF h
  obtain⟨r15,h16,h⟩:=obind h
  have k:=oC 0 [0] (c236 h16)<|oB 1 h12 k
  obtain⟨h17,h⟩:=spT h
  obtain⟨l18,h19,h⟩:=obind h
  exact fun j=>lH 0 [] [0] [1] [0,8,9] (oD (dTokenToken l18)<|oD (dI r4)<|oD (dI r1.1)<|oP 4 (apS177 h19 (by simp))<|oB 1 h17 k) (ih _ _ _ _ _ _ h)
theorem c139{qq p0 r}(h:e139 qq p0=some r):K139 p0 r Ct:=by
 unfold e139 at h
 obtain⟨r1,h2,h⟩:=obind h
 have k:=oC 0 [] (c224 h2) o0
 obtain⟨h3,h⟩:=splF h
 obtain⟨r4,h5,h⟩:=obind h
 exact k139 (tH q139 0 [(none,9,3)] [0] [0] [0,8,9] (oD (dTokenToken ([]:List TokenToken))<|oD (dI r4)<|oD (dI r1.1)<|oC 0 [] (c234 h5)<|oB 3 h3 k) (l139Laz _ _ _ _ _ _ _ h))
def e85(qq:Nat)(p0:ByteArray):Option (List TokenToken×Int×Int×Int):=
 e139 qq p0>>=fun r1=>
 if r1.2.2 != 0 then
 none
 else
 some (r1.1,0,0,0)
abbrev K85 (p0:ByteArray) (r:List TokenToken×Int×Int×Int) (C:Cf):Prop:=C 85 [] [at' p0] (.mp 0 0) [.cells [slv tokenTokenL r.1 .no,ai r.2.1,ai r.2.2.1,ai r.2.2.2]] 0
theorem q85:Qf 85 Tryz.f85:=⟨Tryz.func85,by kernel_rfl⟩
theorem k85{p0 r}(h:K85 p0 r Ci):K85 p0 r Ct:=⟨h,⟨tv,tv⟩,forall_nil,(lz rfl),(forall_cons ⟨dTokenToken _,tv,tv,tv,tv⟩ forall_nil)⟩
theorem c85{qq p0 r}(h:e85 qq p0=some r):K85 p0 r Ct:=by
 unfold e85 at h
 obtain⟨r1,h2,h⟩:=obind h
 have k:=oC 0 [] (c139 h2) o0
 obtain⟨h3,h⟩:=splF h
 obtain rfl:=sj h
 exact k85 (tF q85 0 [0] (oD (dTokenToken r1.1)<|oB 3 h3 k))
def e86(qq:Nat)(q0_l:List TokenToken)(q0_i q0_at q0_bad p1:Int):Option (TokenToken):=
 if decide ((w64 (q0_i+p1))≥(List.length q0_l:Int))then
 none
 else
 gidx q0_l (w64 (q0_i+p1))>>=fun x4=>
 some x4
abbrev K86 (q0_l:List TokenToken) (q0_i q0_at q0_bad p1:Int) (r:TokenToken) (C:Cf):Prop:=C 86 [.cells [slv tokenTokenL q0_l .no,ai q0_i,ai q0_at,ai q0_bad]] [.mp 0 0,ai p1] (tokenTokenA r) [.cells [slv tokenTokenL q0_l .no,ai q0_i,ai q0_at,ai q0_bad]] 0
theorem q86:Qf 86 Tryz.f86:=⟨Tryz.func86,by kernel_rfl⟩
theorem k86{q0_l q0_i q0_at q0_bad p1 r}(h:K86 q0_l q0_i q0_at q0_bad p1 r Ci):K86 q0_l q0_i q0_at q0_bad p1 r Ct:=⟨h,⟨(lz rfl),tv,tv⟩,(forall_cons ⟨⟨tv,dTokenToken _⟩,tv,tv,tv,tv⟩ forall_nil),⟨tv,tv,tv,tv⟩,(forall_cons ⟨dTokenToken _,tv,tv,tv,tv⟩ forall_nil)⟩
theorem c86{qq q0_l q0_i q0_at q0_bad p1 r}(h:e86 qq q0_l q0_i q0_at q0_bad p1=some r):K86 q0_l q0_i q0_at q0_bad p1 r Ct:=by
 unfold e86 at h
 obtain⟨h1,h⟩:=splF h
 obtain⟨x4,h5,h⟩:=obind h
 obtain rfl:=sj h
 exact k86 (tF q86 2 [0] (oD (dTokenToken q0_l)<|oA 3 (ix177 (o:=.no) h5)<|oB 4 h1 o0))
def e500Lba(qq:Nat)(p0:TreeNode)(v1 v12:Int):Option (Int):=
 if decide (v12<(List.length p0.sub_:Int))then
 none
 else
 some v1
def e500(qq:Nat)(p0:TreeNode)(p1:Int):Option (Int):=
 e500Lba qq p0 (w64 (p1+1)) 0
def g500LbaE0(j:Nat->Value)(p0:TreeNode)(v1 v12:Int):=sp j 23 0 [(1,ai v1),(10,slv treeNodeC p0.sub_ .no),(11,ai (List.length p0.sub_:Int)),(12,ai v12)]
def g500LbaS0(p0:TreeNode)(v1 v12:Int):LSt:=⟨[],0,[],0,[]⟩
abbrev K500 (p0:TreeNode) (p1 r:Int) (C:Cf):Prop:=C 500 [] [treeNodeA p0,ai p1] (ai r) [] 0
theorem q500:Qf 500 Tryz.f500:=⟨Tryz.func500,by kernel_rfl⟩
theorem k500{p0 p1 r}(h:K500 p0 p1 r Ci):K500 p0 p1 r Ct:=⟨h,⟨⟨tv,tv,tv,tv,⟨tv,dTreeNode _⟩,tv⟩,tv,tv⟩,forall_nil,tv,forall_nil⟩
theorem l500Lba(qq p0 v1 v12 r)(h:e500Lba qq p0 v1 v12=some r):(∀j,Dl Tryz.prog 0 (inn (inn (rgt (lft (rgt (rgt (bod Tryz.f500))))))) (g500LbaE0 j p0 v1 v12) (g500LbaS0 p0 v1 v12) (frameQ Tryz.prog 0 (FinQ Tryz.prog 0 Tryz.f500 (ai r) [] 0) [.blk 0,.seq (rgt (rgt (rgt (bod Tryz.f500))))])):=by
 unfold e500Lba at h
 obtain⟨h1,h⟩:=splF h
 obtain rfl:=sj h
 exact fun j=>lF 0 [] (oB 0 h1 o0)
theorem c500{qq p0 p1 r}(h:e500 qq p0 p1=some r):K500 p0 p1 r Ct:=by
 unfold e500 at h
 exact k500 (tH q500 3 [] [] [] [1,10,11,12] (oD (dTreeNode p0.sub_) o0) (l500Lba qq _ _ _ _ h))
def e416(qq:Nat)(p0:TreeNode):Option (Int):=
 e500 qq p0 0>>=fun r1=>
 some r1
abbrev K416 (p0:TreeNode) (r:Int) (C:Cf):Prop:=C 416 [] [treeNodeA p0] (ai r) [] 0
theorem q416:Qf 416 Tryz.f416:=⟨Tryz.func416,by kernel_rfl⟩
theorem k416{p0 r}(h:K416 p0 r Ci):K416 p0 r Ct:=⟨h,⟨⟨tv,tv,tv,tv,⟨tv,dTreeNode _⟩,tv⟩,tv⟩,forall_nil,tv,forall_nil⟩
theorem c416{qq p0 r}(h:e416 qq p0=some r):K416 p0 r Ct:=by
 unfold e416 at h
 obtain⟨r1,h2,h⟩:=obind h
 obtain rfl:=sj h
 exact k416 (tF q416 0 [] (oC 1 [] (c500 h2) o0))
def e417Lbb(qq:Nat)(p0:TreeNode)(p1 v15 v5:Int):Option (Int):=
 if decide (v15<(List.length p0.sub_:Int))then
 none
 else
 some v5
def e417(qq:Nat)(p0:TreeNode)(p1:Int):Option (Int):=
 if decide (p1>128)then
 none
 else
 e417Lbb qq p0 p1 0 p1
def g417LbbE0(j:Nat->Value)(p0:TreeNode)(p1 v15 v5:Int):=sp j 27 0 [(1,ai p1),(5,ai v5),(13,slv treeNodeC p0.sub_ .no),(14,ai (List.length p0.sub_:Int)),(15,ai v15)]
def g417LbbS0(p0:TreeNode)(p1 v15 v5:Int):LSt:=⟨[],0,[],0,[]⟩
abbrev K417 (p0:TreeNode) (p1 r:Int) (C:Cf):Prop:=C 417 [] [treeNodeA p0,ai p1] (ai r) [] 0
theorem q417:Qf 417 Tryz.f417:=⟨Tryz.func417,by kernel_rfl⟩
theorem k417{p0 p1 r}(h:K417 p0 p1 r Ci):K417 p0 p1 r Ct:=⟨h,⟨⟨tv,tv,tv,tv,⟨tv,dTreeNode _⟩,tv⟩,tv,tv⟩,forall_nil,tv,forall_nil⟩
theorem l417Lbb(qq p0 p1 v15 v5 r)(h:e417Lbb qq p0 p1 v15 v5=some r):(∀j,Dl Tryz.prog 0 (inn (inn (rgt (lft (rgt (rgt (rgt (bod Tryz.f417)))))))) (g417LbbE0 j p0 p1 v15 v5) (g417LbbS0 p0 p1 v15 v5) (frameQ Tryz.prog 0 (FinQ Tryz.prog 0 Tryz.f417 (ai r) [] 0) [.blk 0,.seq (rgt (rgt (rgt (rgt (bod Tryz.f417)))))])):=by
 unfold e417Lbb at h
 obtain⟨h2,h⟩:=splF h
 obtain rfl:=sj h
 exact fun j=>lF 0 [] (oB 0 h2 o0)
theorem c417{qq p0 p1 r}(h:e417 qq p0 p1=some r):K417 p0 p1 r Ct:=by
 unfold e417 at h
 obtain⟨h1,h⟩:=splF h
 exact k417 (tH q417 2 [] [] [] [1,5,13,14,15] (oD (dTreeNode p0.sub_)<|oB 0 h1 o0) (l417Lbb qq _ _ _ _ _ h))
def e306(qq:Nat)(p0:TreeNode):Option (Int):=
 e416 qq p0>>=fun r1=>
 if decide (r1>8192)then
 none
 else
 e417 qq p0 1>>=fun r4=>
 some r4
abbrev K306 (p0:TreeNode) (r:Int) (C:Cf):Prop:=C 306 [] [treeNodeA p0] (ai r) [] 0
theorem q306:Qf 306 Tryz.f306:=⟨Tryz.func306,by kernel_rfl⟩
theorem k306{p0 r}(h:K306 p0 r Ci):K306 p0 r Ct:=⟨h,⟨⟨tv,tv,tv,tv,⟨tv,dTreeNode _⟩,tv⟩,tv⟩,forall_nil,tv,forall_nil⟩
theorem c306{qq p0 r}(h:e306 qq p0=some r):K306 p0 r Ct:=by
 unfold e306 at h
 obtain⟨r1,h2,h⟩:=obind h
 have k:=oC 1 [] (c416 h2) o0
 obtain⟨h3,h⟩:=splF h
 obtain⟨r4,h5,h⟩:=obind h
 obtain rfl:=sj h
 exact k306 (tF q306 0 [] (oC 1 [] (c417 h5)<|oB 0 h3 k))
def e201(qq:Nat)(q0_l:List TokenToken)(q0_i q0_at q0_bad:Int)(p1:TreeNode)(p2:Int):Option (TreeNode×Int×Int):=
 if q0_bad==0 then
 e306 qq p1>>=fun r2=>
 if decide (r2>128)then
 none
 else
 some (p1,q0_at,q0_bad)
 else
 none
abbrev K201 (q0_l:List TokenToken) (q0_i q0_at q0_bad:Int) (p1:TreeNode) (p2:Int) (r:TreeNode×Int×Int) (C:Cf):Prop:=C 201 [.cells [slv tokenTokenL q0_l .no,ai q0_i,ai q0_at,ai q0_bad]] [.mp 0 0,treeNodeA p1,ai p2] (treeNodeA r.1) [.cells [slv tokenTokenL q0_l .no,ai q0_i,ai r.2.1,ai r.2.2]] 0
theorem q201:Qf 201 Tryz.f201:=⟨Tryz.func201,by kernel_rfl⟩
theorem k201{q0_l q0_i q0_at q0_bad p1 p2 r}(h:K201 q0_l q0_i q0_at q0_bad p1 p2 r Ci):K201 q0_l q0_i q0_at q0_bad p1 p2 r Ct:=⟨h,⟨(lz rfl),⟨tv,tv,tv,tv,⟨tv,dTreeNode _⟩,tv⟩,tv,tv⟩,(forall_cons ⟨⟨tv,dTokenToken _⟩,tv,tv,tv,tv⟩ forall_nil),⟨tv,tv,tv,tv,dTreeNode _,tv⟩,(forall_cons ⟨dTokenToken _,tv,tv,tv,tv⟩ forall_nil)⟩
theorem c201{qq q0_l q0_i q0_at q0_bad p1 p2 r}(h:e201 qq q0_l q0_i q0_at q0_bad p1 p2=some r):K201 q0_l q0_i q0_at q0_bad p1 p2 r Ct:=by
 unfold e201 at h
 obtain⟨h1,h⟩:=spT h
 obtain⟨r2,h3,h⟩:=obind h
 have k:=oC 1 [] (c306 h3)<|oB 1 h1 o0
 obtain⟨h4,h⟩:=splF h
 obtain rfl:=sj h
 exact k201 (tF q201 2 [0] (oD (dTreeNode p1.sub_)<|oD (dTokenToken q0_l)<|oB 0 h4 k))
def e238(qq:Nat)(q0_l:List TokenToken)(q0_i q0_at q0_bad p1:Int):Option (Bool):=
 e86 qq q0_l q0_i q0_at q0_bad p1>>=fun r1=>
 if r1.kind_==1 then
 e86 qq q0_l q0_i q0_at q0_bad p1>>=fun r4=>
 some (!(r4.text_.toList==(⟨#[95]⟩:ByteArray).toList))
 else
 some false
abbrev K238 (q0_l:List TokenToken) (q0_i q0_at q0_bad p1:Int) (r:Bool) (C:Cf):Prop:=C 238 [.cells [slv tokenTokenL q0_l .no,ai q0_i,ai q0_at,ai q0_bad]] [.mp 0 0,ai p1] (ab r) [.cells [slv tokenTokenL q0_l .no,ai q0_i,ai q0_at,ai q0_bad]] 0
theorem q238:Qf 238 Tryz.f238:=⟨Tryz.func238,by kernel_rfl⟩
theorem k238{q0_l q0_i q0_at q0_bad p1 r}(h:K238 q0_l q0_i q0_at q0_bad p1 r Ci):K238 q0_l q0_i q0_at q0_bad p1 r Ct:=⟨h,⟨(lz rfl),tv,tv⟩,(forall_cons ⟨⟨tv,dTokenToken _⟩,tv,tv,tv,tv⟩ forall_nil),tv,(forall_cons ⟨dTokenToken _,tv,tv,tv,tv⟩ forall_nil)⟩
theorem c238{qq q0_l q0_i q0_at q0_bad p1 r}(h:e238 qq q0_l q0_i q0_at q0_bad p1=some r):K238 q0_l q0_i q0_at q0_bad p1 r Ct:=by
 unfold e238 at h
 obtain⟨r1,h2,h⟩:=obind h
 have k:=oC 0 [0] (c86 h2) o0
 rcases spl h with⟨h3,h⟩|⟨h3,h⟩
 obtain⟨r4,h5,h⟩:=obind h
 obtain rfl:=sj h
 exact k238 (tF q238 1 [0] (oD (dTokenToken q0_l)<|oC 0 [0] (c86 h5)<|oB 0 h3 k))
 obtain rfl:=sj h
 exact k238 (tF q238 0 [0] (oD (dTokenToken q0_l)<|oB 0 h3 k))
def e142(qq:Nat)(q0_l:List TokenToken)(q0_i q0_at q0_bad:Int):Option (ByteArray×Int×Int×Int):=
 e238 qq q0_l q0_i q0_at q0_bad 0>>=fun r1=>
 if r1 then
 if q0_bad != 0 then
 none
 else
 e86 qq q0_l (w64 (q0_i+1)) q0_at q0_bad (-1)>>=fun r5=>
 some (r5.text_,(w64 (q0_i+1)),q0_at,q0_bad)
 else
 none
abbrev K142 (q0_l:List TokenToken) (q0_i q0_at q0_bad:Int) (r:ByteArray×Int×Int×Int) (C:Cf):Prop:=C 142 [.cells [slv tokenTokenL q0_l .no,ai q0_i,ai q0_at,ai q0_bad]] [.mp 0 0] (at' r.1) [.cells [slv tokenTokenL q0_l .no,ai r.2.1,ai r.2.2.1,ai r.2.2.2]] 0
theorem q142:Qf 142 Tryz.f142:=⟨Tryz.func142,by kernel_rfl⟩
theorem k142{q0_l q0_i q0_at q0_bad r}(h:K142 q0_l q0_i q0_at q0_bad r Ci):K142 q0_l q0_i q0_at q0_bad r Ct:=⟨h,⟨(lz rfl),tv⟩,(forall_cons ⟨⟨tv,dTokenToken _⟩,tv,tv,tv,tv⟩ forall_nil),tv,(forall_cons ⟨dTokenToken _,tv,tv,tv,tv⟩ forall_nil)⟩
theorem c142{qq q0_l q0_i q0_at q0_bad r}(h:e142 qq q0_l q0_i q0_at q0_bad=some r):K142 q0_l q0_i q0_at q0_bad r Ct:=by
 unfold e142 at h
 obtain⟨r1,h2,h⟩:=obind h
 obtain⟨h3,h⟩:=spT h
 have k:=oK 0 [0] h3 (c238 h2) o0
 obtain⟨h4,h⟩:=splF h
 obtain⟨r5,h6,h⟩:=obind h
 obtain rfl:=sj h
 exact k142 (tF q142 0 [0] (oD (dTokenToken q0_l)<|oC 3 [0] (c86 h6)<|oB 2 h4 k))
def e237(qq:Nat)(q0_l:List TokenToken)(q0_i q0_at q0_bad p1:Int)(p2:ByteArray):Option (Bool):=
 e86 qq q0_l q0_i q0_at q0_bad p1>>=fun r1=>
 if r1.kind_==4 then
 some (r1.text_.toList==p2.toList)
 else
 if r1.kind_==2 then
 some (r1.text_.toList==p2.toList)
 else
 some false
abbrev K237 (q0_l:List TokenToken) (q0_i q0_at q0_bad p1:Int) (p2:ByteArray) (r:Bool) (C:Cf):Prop:=C 237 [.cells [slv tokenTokenL q0_l .no,ai q0_i,ai q0_at,ai q0_bad]] [.mp 0 0,ai p1,at' p2] (ab r) [.cells [slv tokenTokenL q0_l .no,ai q0_i,ai q0_at,ai q0_bad]] 0
theorem q237:Qf 237 Tryz.f237:=⟨Tryz.func237,by kernel_rfl⟩
theorem k237{q0_l q0_i q0_at q0_bad p1 p2 r}(h:K237 q0_l q0_i q0_at q0_bad p1 p2 r Ci):K237 q0_l q0_i q0_at q0_bad p1 p2 r Ct:=⟨h,⟨(lz rfl),tv,tv,tv⟩,(forall_cons ⟨⟨tv,dTokenToken _⟩,tv,tv,tv,tv⟩ forall_nil),tv,(forall_cons ⟨dTokenToken _,tv,tv,tv,tv⟩ forall_nil)⟩
theorem c237{qq q0_l q0_i q0_at q0_bad p1 p2 r}(h:e237 qq q0_l q0_i q0_at q0_bad p1 p2=some r):K237 q0_l q0_i q0_at q0_bad p1 p2 r Ct:=by
 unfold e237 at h
 obtain⟨r1,h2,h⟩:=obind h
 have k:=oC 0 [0] (c86 h2) o0
 rcases spl h with⟨h3,h⟩|⟨h3,h⟩
 obtain rfl:=sj h
 exact k237 (tF q237 2 [0] (oD (dTokenToken q0_l)<|oB 2 h3 k))
 have k:=oB 2 h3 k
 rcases spl h with⟨h4,h⟩|⟨h4,h⟩
 obtain rfl:=sj h
 exact k237 (tF q237 2 [0] (oD (dTokenToken q0_l)<|oB 1 h4 k))
 obtain rfl:=sj h
 exact k237 (tF q237 0 [0] (oD (dTokenToken q0_l)<|oB 1 h4 k))
def e308(qq:Nat)(q0_l:List TokenToken)(q0_i q0_at q0_bad:Int):Option (Bool):=
 e237 qq q0_l q0_i q0_at q0_bad 0 (⟨#[40]⟩:ByteArray)>>=fun r1=>
 if r1 then
 none
 else
 some false
abbrev K308 (q0_l:List TokenToken) (q0_i q0_at q0_bad:Int) (r:Bool) (C:Cf):Prop:=C 308 [.cells [slv tokenTokenL q0_l .no,ai q0_i,ai q0_at,ai q0_bad]] [.mp 0 0] (ab r) [.cells [slv tokenTokenL q0_l .no,ai q0_i,ai q0_at,ai q0_bad]] 0
theorem q308:Qf 308 Tryz.f308:=⟨Tryz.func308,by kernel_rfl⟩
theorem k308{q0_l q0_i q0_at q0_bad r}(h:K308 q0_l q0_i q0_at q0_bad r Ci):K308 q0_l q0_i q0_at q0_bad r Ct:=⟨h,⟨(lz rfl),tv⟩,(forall_cons ⟨⟨tv,dTokenToken _⟩,tv,tv,tv,tv⟩ forall_nil),tv,(forall_cons ⟨dTokenToken _,tv,tv,tv,tv⟩ forall_nil)⟩
theorem c308{qq q0_l q0_i q0_at q0_bad r}(h:e308 qq q0_l q0_i q0_at q0_bad=some r):K308 q0_l q0_i q0_at q0_bad r Ct:=by
 unfold e308 at h
 obtain⟨r1,h2,h⟩:=obind h
 obtain⟨h3,h⟩:=splF h
 obtain rfl:=sj h
 exact k308 (tF q308 0 [0] (oD (dTokenToken q0_l)<|oK 0 [0] h3 (c237 h2) o0))
def e420(qq:Nat)(q0_l:List TokenToken)(q0_i q0_at q0_bad:Int):Option (Bool):=
 e238 qq q0_l q0_i q0_at q0_bad 0>>=fun r1=>
 if r1 then
 none
 else
 e237 qq q0_l q0_i q0_at q0_bad 0 (⟨#[83,101,116]⟩:ByteArray)>>=fun r4=>
 if r4 then
 none
 else
 e237 qq q0_l q0_i q0_at q0_bad 0 (⟨#[40]⟩:ByteArray)>>=fun r7=>
 if r7 then
 none
 else
 some false
abbrev K420 (q0_l:List TokenToken) (q0_i q0_at q0_bad:Int) (r:Bool) (C:Cf):Prop:=C 420 [.cells [slv tokenTokenL q0_l .no,ai q0_i,ai q0_at,ai q0_bad]] [.mp 0 0] (ab r) [.cells [slv tokenTokenL q0_l .no,ai q0_i,ai q0_at,ai q0_bad]] 0
theorem q420:Qf 420 Tryz.f420:=⟨Tryz.func420,by kernel_rfl⟩
theorem k420{q0_l q0_i q0_at q0_bad r}(h:K420 q0_l q0_i q0_at q0_bad r Ci):K420 q0_l q0_i q0_at q0_bad r Ct:=⟨h,⟨(lz rfl),tv⟩,(forall_cons ⟨⟨tv,dTokenToken _⟩,tv,tv,tv,tv⟩ forall_nil),tv,(forall_cons ⟨dTokenToken _,tv,tv,tv,tv⟩ forall_nil)⟩
theorem c420{qq q0_l q0_i q0_at q0_bad r}(h:e420 qq q0_l q0_i q0_at q0_bad=some r):K420 q0_l q0_i q0_at q0_bad r Ct:=by
 unfold e420 at h
 obtain⟨r1,h2,h⟩:=obind h
 obtain⟨h3,h⟩:=splF h
 obtain⟨r4,h5,h⟩:=obind h
 have k:=oK 0 [0] h3 (c238 h2) o0
 obtain⟨h6,h⟩:=splF h
 obtain⟨r7,h8,h⟩:=obind h
 have k:=oK 0 [0] h6 (c237 h5) k
 obtain⟨h9,h⟩:=splF h
 obtain rfl:=sj h
 exact k420 (tF q420 0 [0] (oD (dTokenToken q0_l)<|oK 0 [0] h9 (c237 h8) k))
def e501(qq:Nat)(q0_l:List TokenToken)(q0_i q0_at q0_bad:Int):Option (TreeNode×Int×Int×Int):=
 e86 qq q0_l q0_i q0_at q0_bad 0>>=fun r1=>
 e86 qq q0_l (w64 (q0_i+1)) q0_at q0_bad 0>>=fun r3=>
 if r3.kind_==3 then
 none
 else
 some ((TreeNode.mk 2 r1.at_ (⟨#[]⟩:ByteArray) 0 []),(w64 (q0_i+1)),q0_at,q0_bad)
abbrev K501 (q0_l:List TokenToken) (q0_i q0_at q0_bad:Int) (r:TreeNode×Int×Int×Int) (C:Cf):Prop:=C 501 [.cells [slv tokenTokenL q0_l .no,ai q0_i,ai q0_at,ai q0_bad]] [.mp 0 0] (treeNodeA r.1) [.cells [slv tokenTokenL q0_l .no,ai r.2.1,ai r.2.2.1,ai r.2.2.2]] 0
theorem q501:Qf 501 Tryz.f501:=⟨Tryz.func501,by kernel_rfl⟩
theorem k501{q0_l q0_i q0_at q0_bad r}(h:K501 q0_l q0_i q0_at q0_bad r Ci):K501 q0_l q0_i q0_at q0_bad r Ct:=⟨h,⟨(lz rfl),tv⟩,(forall_cons ⟨⟨tv,dTokenToken _⟩,tv,tv,tv,tv⟩ forall_nil),⟨tv,tv,tv,tv,dTreeNode _,tv⟩,(forall_cons ⟨dTokenToken _,tv,tv,tv,tv⟩ forall_nil)⟩
theorem c501{qq q0_l q0_i q0_at q0_bad r}(h:e501 qq q0_l q0_i q0_at q0_bad=some r):K501 q0_l q0_i q0_at q0_bad r Ct:=by
 unfold e501 at h
 obtain⟨r1,h2,h⟩:=obind h
 obtain⟨r3,h4,h⟩:=obind h
 have k:=oC 4 [0] (c86 h4)<|oC 0 [0] (c86 h2) o0
 obtain⟨h5,h⟩:=splF h
 obtain rfl:=sj h
 exact k501 (tF q501 2 [0] (oD (dTreeNode ([]:List TreeNode))<|oD (dTokenToken q0_l)<|oB 0 h5 k))
def e309Lbc(qq:Nat)(q0_l:List TokenToken)(r1:TreeNode×Int×Int×Int)(vb0_1 vb0_2 vb0_3 vb2_0:Int)(vb2_2:ByteArray)(vb2_3:Int)(vb2_4:List TreeNode):Option (TreeNode×Int×Int×Int):=
 if vb0_3==0 then
 e420 qq q0_l vb0_1 vb0_2 vb0_3>>=fun r4=>
 if r4 then
 none
 else
 some ((TreeNode.mk vb2_0 r1.1.at_ vb2_2 vb2_3 vb2_4),vb0_1,vb0_2,vb0_3)
 else
 none
def e419(qq:Nat)(q0_l:List TokenToken)(q0_i q0_at q0_bad:Int):Option (TreeNode×Int×Int×Int):=
 if q0_bad != 0 then
 none
 else
 e237 qq q0_l q0_i q0_at q0_bad 0 (⟨#[83,101,116]⟩:ByteArray)>>=fun r2=>
 if r2 then
 e501 qq q0_l q0_i q0_at q0_bad>>=fun r5=>
 some (r5.1,r5.2.1,r5.2.2.1,r5.2.2.2)
 else
 e237 qq q0_l q0_i q0_at q0_bad 0 (⟨#[40]⟩:ByteArray)>>=fun r7=>
 if r7 then
 none
 else
 e86 qq q0_l q0_i q0_at q0_bad 0>>=fun r14=>
 e142 qq q0_l q0_i q0_at q0_bad>>=fun r16=>
 some ((TreeNode.mk 1 r14.at_ r16.1 0 []),r16.2.1,r16.2.2.1,r16.2.2.2)
def e309(qq:Nat)(q0_l:List TokenToken)(q0_i q0_at q0_bad:Int):Option (TreeNode×Int×Int×Int):=
 e419 qq q0_l q0_i q0_at q0_bad>>=fun r1=>
 e309Lbc qq q0_l r1 r1.2.1 r1.2.2.1 r1.2.2.2 r1.1.kind_ r1.1.name_ r1.1.n_ r1.1.sub_
def e202(qq:Nat)(q0_l:List TokenToken)(q0_i q0_at q0_bad:Int):Option (TreeNode×Int×Int×Int):=
 e86 qq q0_l q0_i q0_at q0_bad 0>>=fun r1=>
 if q0_bad != 0 then
 none
 else
 e237 qq q0_l q0_i q0_at q0_bad 0 (⟨#[92]⟩:ByteArray)>>=fun r4=>
 if r4 then
 none
 else
 e308 qq q0_l q0_i q0_at q0_bad>>=fun r9=>
 if r9 then
 none
 else
 e309 qq q0_l q0_i q0_at q0_bad>>=fun r14=>
 if r14.2.2.2==0 then
 e237 qq q0_l r14.2.1 r14.2.2.1 r14.2.2.2 0 (⟨#[45,62]⟩:ByteArray)>>=fun r17=>
 if r17 then
 none
 else
 some (r14.1,r14.2.1,r14.2.2.1,r14.2.2.2)
 else
 none
def g309LbcE0(j:Nat->Value)(q0_l:List TokenToken)(r1:TreeNode×Int×Int×Int)(vb0_1 vb0_2 vb0_3 vb2_0:Int)(vb2_2:ByteArray)(vb2_3:Int)(vb2_4:List TreeNode):=sp j 23 0 [(0,.mp 0 0),(2,.mp 1 0),(3,.mp 2 0)]
def g309LbcS0(q0_l:List TokenToken)(r1:TreeNode×Int×Int×Int)(vb0_1 vb0_2 vb0_3 vb2_0:Int)(vb2_2:ByteArray)(vb2_3:Int)(vb2_4:List TreeNode):LSt:=⟨[(0,.cells [slv tokenTokenL q0_l .no,ai vb0_1,ai vb0_2,ai vb0_3]),(1,.cells [ai 0,ai 0,at' (⟨#[]⟩:ByteArray),ai 0,slv treeNodeC ([]:List TreeNode) .nl]),(2,.cells [ai vb2_0,ai r1.1.at_,at' vb2_2,ai vb2_3,slv treeNodeC vb2_4 .no])],3,[],0,[]⟩
def g309LbcE1(j:Nat->Value)(q0_l:List TokenToken)(r1:TreeNode×Int×Int×Int)(vb0_1 vb0_2 vb0_3 vb2_0:Int)(vb2_2:ByteArray)(vb2_3:Int)(vb2_4:List TreeNode):=sp j 23 0 [(0,.mp 0 0),(2,.mp 1 0),(3,.mp 2 0)]
def g309LbcS1(q0_l:List TokenToken)(r1:TreeNode×Int×Int×Int)(vb0_1 vb0_2 vb0_3 vb2_0:Int)(vb2_2:ByteArray)(vb2_3:Int)(vb2_4:List TreeNode):LSt:=⟨[(0,.cells [slv tokenTokenL q0_l .no,ai vb0_1,ai vb0_2,ai vb0_3]),(1,.cells [ai 0,ai 0,at' (⟨#[]⟩:ByteArray),ai 0,slv treeNodeC ([]:List TreeNode) .nl]),(2,.cells [ai vb2_0,ai r1.1.at_,at' vb2_2,ai vb2_3,slv treeNodeC vb2_4 .full])],3,[],0,[]⟩
abbrev K202 (q0_l:List TokenToken) (q0_i q0_at q0_bad:Int) (r:TreeNode×Int×Int×Int) (C:Cf):Prop:=C 202 [.cells [slv tokenTokenL q0_l .no,ai q0_i,ai q0_at,ai q0_bad]] [.mp 0 0] (treeNodeA r.1) [.cells [slv tokenTokenL q0_l .no,ai r.2.1,ai r.2.2.1,ai r.2.2.2]] 0
abbrev K309 (q0_l:List TokenToken) (q0_i q0_at q0_bad:Int) (r:TreeNode×Int×Int×Int) (C:Cf):Prop:=C 309 [.cells [slv tokenTokenL q0_l .no,ai q0_i,ai q0_at,ai q0_bad]] [.mp 0 0] (treeNodeA r.1) [.cells [slv tokenTokenL q0_l .no,ai r.2.1,ai r.2.2.1,ai r.2.2.2]] 0
abbrev K419 (q0_l:List TokenToken) (q0_i q0_at q0_bad:Int) (r:TreeNode×Int×Int×Int) (C:Cf):Prop:=C 419 [.cells [slv tokenTokenL q0_l .no,ai q0_i,ai q0_at,ai q0_bad]] [.mp 0 0] (treeNodeA r.1) [.cells [slv tokenTokenL q0_l .no,ai r.2.1,ai r.2.2.1,ai r.2.2.2]] 0
theorem q202:Qf 202 Tryz.f202:=⟨Tryz.func202,by kernel_rfl⟩
theorem k202{q0_l q0_i q0_at q0_bad r}(h:K202 q0_l q0_i q0_at q0_bad r Ci):K202 q0_l q0_i q0_at q0_bad r Ct:=⟨h,⟨(lz rfl),tv⟩,(forall_cons ⟨⟨tv,dTokenToken _⟩,tv,tv,tv,tv⟩ forall_nil),⟨tv,tv,tv,tv,dTreeNode _,tv⟩,(forall_cons ⟨dTokenToken _,tv,tv,tv,tv⟩ forall_nil)⟩
theorem q309:Qf 309 Tryz.f309:=⟨Tryz.func309,by kernel_rfl⟩
theorem k309{q0_l q0_i q0_at q0_bad r}(h:K309 q0_l q0_i q0_at q0_bad r Ci):K309 q0_l q0_i q0_at q0_bad r Ct:=⟨h,⟨(lz rfl),tv⟩,(forall_cons ⟨⟨tv,dTokenToken _⟩,tv,tv,tv,tv⟩ forall_nil),⟨tv,tv,tv,tv,dTreeNode _,tv⟩,(forall_cons ⟨dTokenToken _,tv,tv,tv,tv⟩ forall_nil)⟩
theorem q419:Qf 419 Tryz.f419:=⟨Tryz.func419,by kernel_rfl⟩
theorem k419{q0_l q0_i q0_at q0_bad r}(h:K419 q0_l q0_i q0_at q0_bad r Ci):K419 q0_l q0_i q0_at q0_bad r Ct:=⟨h,⟨(lz rfl),tv⟩,(forall_cons ⟨⟨tv,dTokenToken _⟩,tv,tv,tv,tv⟩ forall_nil),⟨tv,tv,tv,tv,dTreeNode _,tv⟩,(forall_cons ⟨dTokenToken _,tv,tv,tv,tv⟩ forall_nil)⟩
theorem l309Lbc(qq q0_l r1 vb0_1 vb0_2 vb0_3 vb2_0 vb2_2 vb2_3 vb2_4 r)(h:e309Lbc qq q0_l r1 vb0_1 vb0_2 vb0_3 vb2_0 vb2_2 vb2_3 vb2_4=some r):(∀j,Dl Tryz.prog 1 (inn (inn (lft (rgt (rgt (bod Tryz.f309)))))) (g309LbcE0 j q0_l r1 vb0_1 vb0_2 vb0_3 vb2_0 vb2_2 vb2_3 vb2_4) (g309LbcS0 q0_l r1 vb0_1 vb0_2 vb0_3 vb2_0 vb2_2 vb2_3 vb2_4) (frameQ Tryz.prog 1 (FinQ Tryz.prog 1 Tryz.f309 (treeNodeA r.1) [.cells [slv tokenTokenL q0_l .no,ai r.2.1,ai r.2.2.1,ai r.2.2.2]] 0) [.blk 0,.seq (rgt (rgt (rgt (bod Tryz.f309))))]))∧(∀j,Dl Tryz.prog 1 (inn (inn (lft (rgt (rgt (bod Tryz.f309)))))) (g309LbcE1 j q0_l r1 vb0_1 vb0_2 vb0_3 vb2_0 vb2_2 vb2_3 vb2_4) (g309LbcS1 q0_l r1 vb0_1 vb0_2 vb0_3 vb2_0 vb2_2 vb2_3 vb2_4) (frameQ Tryz.prog 1 (FinQ Tryz.prog 1 Tryz.f309 (treeNodeA r.1) [.cells [slv tokenTokenL q0_l .no,ai r.2.1,ai r.2.2.1,ai r.2.2.2]] 0) [.blk 0,.seq (rgt (rgt (rgt (bod Tryz.f309))))])):=by
 unfold e309Lbc at h
 refine⟨?_,?_⟩
 obtain⟨h3,h⟩:=spT h
 obtain⟨r4,h5,h⟩:=obind h
 have k:=oB 1 h3 o0
 obtain⟨h6,h⟩:=splF h
 obtain rfl:=sj h
 exact fun j=>lF 2 [0] (oD (dTreeNode vb2_4)<|oD (dTokenToken q0_l)<|oK 0 [0] h6 (c420 h5) k)
 obtain⟨h3,h⟩:=spT h
 obtain⟨r4,h5,h⟩:=obind h
 have k:=oB 1 h3 o0
 obtain⟨h6,h⟩:=splF h
 obtain rfl:=sj h
 exact fun j=>lF 2 [0] (oD (dTreeNode vb2_4)<|oD (dTokenToken q0_l)<|oK 0 [0] h6 (c420 h5) k)
theorem c419{qq q0_l q0_i q0_at q0_bad r}(h:e419 qq q0_l q0_i q0_at q0_bad=some r):K419 q0_l q0_i q0_at q0_bad r Ct:=by
 unfold e419 at h
 obtain⟨h1,h⟩:=splF h
 obtain⟨r2,h3,h⟩:=obind h
 have k:=oB 1 h1 o0
 rcases spl h with⟨h4,h⟩|⟨h4,h⟩
 obtain⟨r5,h6,h⟩:=obind h
 obtain rfl:=sj h
 exact k419 (tF q419 1 [0] (oD (dTreeNode r5.1.sub_)<|oD (dTokenToken q0_l)<|oC 0 [0] (c501 h6)<|oK 0 [0] h4 (c237 h3) k))
 obtain⟨r7,h8,h⟩:=obind h
 have k:=oK 0 [0] h4 (c237 h3) k
 obtain⟨h9,h⟩:=splF h
 obtain⟨r14,h15,h⟩:=obind h
 obtain⟨r16,h17,h⟩:=obind h
 obtain rfl:=sj h
 exact k419 (tF q419 1 [0] (oD (dTreeNode ([]:List TreeNode))<|oD (dTokenToken q0_l)<|oC 0 [0] (c142 h17)<|oC 0 [0] (c86 h15)<|oK 0 [0] h9 (c237 h8) k))
theorem c309{qq q0_l q0_i q0_at q0_bad r}(h:e309 qq q0_l q0_i q0_at q0_bad=some r):K309 q0_l q0_i q0_at q0_bad r Ct:=by
 unfold e309 at h
 obtain⟨r1,h2,h⟩:=obind h
 exact k309 (tH q309 1 [] [0,1,2] [] [0,2,3] (oD (dTreeNode r1.1.sub_)<|oD (dTreeNode ([]:List TreeNode))<|oD (dTokenToken q0_l)<|oC 0 [0] (c419 h2) o0) ((l309Lbc qq _ _ _ _ _ _ _ _ _ _ h).1))
theorem c202{qq q0_l q0_i q0_at q0_bad r}(h:e202 qq q0_l q0_i q0_at q0_bad=some r):K202 q0_l q0_i q0_at q0_bad r Ct:=by
 unfold e202 at h
 obtain⟨r1,h2,h⟩:=obind h
 have k:=oC 0 [0] (c86 h2) o0
 obtain⟨h3,h⟩:=splF h
 obtain⟨r4,h5,h⟩:=obind h
 have k:=oB 1 h3 k
 obtain⟨h6,h⟩:=splF h
 obtain⟨r9,h10,h⟩:=obind h
 have k:=oK 0 [0] h6 (c237 h5) k
 obtain⟨h11,h⟩:=splF h
 obtain⟨r14,h15,h⟩:=obind h
 have k:=oC 0 [0] (c309 h15)<|oK 0 [0] h11 (c308 h10) k
 obtain⟨h16,h⟩:=spT h
 obtain⟨r17,h18,h⟩:=obind h
 have k:=oB 2 h16 k
 obtain⟨h19,h⟩:=splF h
 obtain rfl:=sj h
 exact k202 (tF q202 2 [0] (oD (dTreeNode r14.1.sub_)<|oD (dTokenToken q0_l)<|oK 0 [0] h19 (c237 h18) k))
def e122(qq:Nat)(q0_l:List TokenToken)(q0_i q0_at q0_bad:Int):Option (TreeNode×Int×Int×Int):=
 e86 qq q0_l q0_i q0_at q0_bad 0>>=fun r1=>
 e202 qq q0_l q0_i q0_at q0_bad>>=fun r3=>
 e201 qq q0_l r3.2.1 r3.2.2.1 r3.2.2.2 r3.1 r1.at_>>=fun r5=>
 some (r5.1,r3.2.1,r5.2.1,r5.2.2)
abbrev K122 (q0_l:List TokenToken) (q0_i q0_at q0_bad:Int) (r:TreeNode×Int×Int×Int) (C:Cf):Prop:=C 122 [.cells [slv tokenTokenL q0_l .no,ai q0_i,ai q0_at,ai q0_bad]] [.mp 0 0] (treeNodeA r.1) [.cells [slv tokenTokenL q0_l .no,ai r.2.1,ai r.2.2.1,ai r.2.2.2]] 0
theorem q122:Qf 122 Tryz.f122:=⟨Tryz.func122,by kernel_rfl⟩
theorem k122{q0_l q0_i q0_at q0_bad r}(h:K122 q0_l q0_i q0_at q0_bad r Ci):K122 q0_l q0_i q0_at q0_bad r Ct:=⟨h,⟨(lz rfl),tv⟩,(forall_cons ⟨⟨tv,dTokenToken _⟩,tv,tv,tv,tv⟩ forall_nil),⟨tv,tv,tv,tv,dTreeNode _,tv⟩,(forall_cons ⟨dTokenToken _,tv,tv,tv,tv⟩ forall_nil)⟩
theorem c122{qq q0_l q0_i q0_at q0_bad r}(h:e122 qq q0_l q0_i q0_at q0_bad=some r):K122 q0_l q0_i q0_at q0_bad r Ct:=by
 unfold e122 at h
 obtain⟨r1,h2,h⟩:=obind h
 obtain⟨r3,h4,h⟩:=obind h
 obtain⟨r5,h6,h⟩:=obind h
 obtain rfl:=sj h
 exact k122 (tF q122 1 [0] (oD (dTreeNode r5.1.sub_)<|oD (dTokenToken q0_l)<|oC 0 [0] (c201 h6)<|oC 0 [0] (c202 h4)<|oC 0 [0] (c86 h2) o0))
def e140(qq:Nat)(q0_l:List TokenToken)(q0_i q0_at q0_bad:Int):Option (Int):=
 e237 qq q0_l q0_i q0_at q0_bad 0 (⟨#[100,97,116,97]⟩:ByteArray)>>=fun r1=>
 if r1 then
 some 1
 else
 none
abbrev K140 (q0_l:List TokenToken) (q0_i q0_at q0_bad r:Int) (C:Cf):Prop:=C 140 [.cells [slv tokenTokenL q0_l .no,ai q0_i,ai q0_at,ai q0_bad]] [.mp 0 0] (ai r) [.cells [slv tokenTokenL q0_l .no,ai q0_i,ai q0_at,ai q0_bad]] 0
theorem q140:Qf 140 Tryz.f140:=⟨Tryz.func140,by kernel_rfl⟩
theorem k140{q0_l q0_i q0_at q0_bad r}(h:K140 q0_l q0_i q0_at q0_bad r Ci):K140 q0_l q0_i q0_at q0_bad r Ct:=⟨h,⟨(lz rfl),tv⟩,(forall_cons ⟨⟨tv,dTokenToken _⟩,tv,tv,tv,tv⟩ forall_nil),tv,(forall_cons ⟨dTokenToken _,tv,tv,tv,tv⟩ forall_nil)⟩
theorem c140{qq q0_l q0_i q0_at q0_bad r}(h:e140 qq q0_l q0_i q0_at q0_bad=some r):K140 q0_l q0_i q0_at q0_bad r Ct:=by
 unfold e140 at h
 obtain⟨r1,h2,h⟩:=obind h
 obtain⟨h3,h⟩:=spT h
 obtain rfl:=sj h
 exact k140 (tF q140 0 [0] (oD (dTokenToken q0_l)<|oK 0 [0] h3 (c237 h2) o0))
def e148(qq:Nat)(q0_l:List TokenToken)(q0_i q0_at q0_bad:Int):Option (Bool):=
 e237 qq q0_l q0_i q0_at q0_bad 0 (⟨#[125]⟩:ByteArray)>>=fun r1=>
 some (!r1)
abbrev K148 (q0_l:List TokenToken) (q0_i q0_at q0_bad:Int) (r:Bool) (C:Cf):Prop:=C 148 [.cells [slv tokenTokenL q0_l .no,ai q0_i,ai q0_at,ai q0_bad]] [.mp 0 0] (ab r) [.cells [slv tokenTokenL q0_l .no,ai q0_i,ai q0_at,ai q0_bad]] 0
theorem q148:Qf 148 Tryz.f148:=⟨Tryz.func148,by kernel_rfl⟩
theorem k148{q0_l q0_i q0_at q0_bad r}(h:K148 q0_l q0_i q0_at q0_bad r Ci):K148 q0_l q0_i q0_at q0_bad r Ct:=⟨h,⟨(lz rfl),tv⟩,(forall_cons ⟨⟨tv,dTokenToken _⟩,tv,tv,tv,tv⟩ forall_nil),tv,(forall_cons ⟨dTokenToken _,tv,tv,tv,tv⟩ forall_nil)⟩
theorem c148{qq q0_l q0_i q0_at q0_bad r}(h:e148 qq q0_l q0_i q0_at q0_bad=some r):K148 q0_l q0_i q0_at q0_bad r Ct:=by
 unfold e148 at h
 obtain⟨r1,h2,h⟩:=obind h
 obtain rfl:=sj h
 exact k148 (tF q148 1 [0] (oD (dTokenToken q0_l)<|oC 0 [0] (c237 h2) o0))
def e146(qq:Nat)(q0_l:List TokenToken)(q0_i q0_at q0_bad:Int)(p1:ByteArray):Option (Int×Int×Int):=
 e237 qq q0_l q0_i q0_at q0_bad 0 p1>>=fun r1=>
 if r1 then
 if q0_bad==0 then
 some ((w64 (q0_i+1)),q0_at,q0_bad)
 else
 none
 else
 none
abbrev K146 (q0_l:List TokenToken) (q0_i q0_at q0_bad:Int) (p1:ByteArray) (r:Int×Int×Int) (C:Cf):Prop:=C 146 [.cells [slv tokenTokenL q0_l .no,ai q0_i,ai q0_at,ai q0_bad]] [.mp 0 0,at' p1] (.tup []) [.cells [slv tokenTokenL q0_l .no,ai r.1,ai r.2.1,ai r.2.2]] 0
theorem q146:Qf 146 Tryz.f146:=⟨Tryz.func146,by kernel_rfl⟩
theorem k146{q0_l q0_i q0_at q0_bad p1 r}(h:K146 q0_l q0_i q0_at q0_bad p1 r Ci):K146 q0_l q0_i q0_at q0_bad p1 r Ct:=⟨h,⟨(lz rfl),tv,tv⟩,(forall_cons ⟨⟨tv,dTokenToken _⟩,tv,tv,tv,tv⟩ forall_nil),tv,(forall_cons ⟨dTokenToken _,tv,tv,tv,tv⟩ forall_nil)⟩
theorem c146{qq q0_l q0_i q0_at q0_bad p1 r}(h:e146 qq q0_l q0_i q0_at q0_bad p1=some r):K146 q0_l q0_i q0_at q0_bad p1 r Ct:=by
 unfold e146 at h
 obtain⟨r1,h2,h⟩:=obind h
 obtain⟨h3,h⟩:=spT h
 have k:=oK 0 [0] h3 (c237 h2) o0
 obtain⟨h4,h⟩:=spT h
 obtain rfl:=sj h
 exact k146 (tF q146 3 [0] (oD (dTokenToken q0_l)<|oB 2 h4 k))
def e239(qq:Nat)(q0_l:List TokenToken)(q0_i q0_at q0_bad:Int):Option (TreeBind×Int×Int×Int):=
 e86 qq q0_l q0_i q0_at q0_bad 0>>=fun r1=>
 e142 qq q0_l q0_i q0_at q0_bad>>=fun r3=>
 e146 qq q0_l r3.2.1 r3.2.2.1 r3.2.2.2 (⟨#[58]⟩:ByteArray)>>=fun r5=>
 e122 qq q0_l r5.1 r5.2.1 r5.2.2>>=fun r7=>
 some ((TreeBind.mk r3.1 r1.at_ r7.1),r7.2.1,r7.2.2.1,r7.2.2.2)
abbrev K239 (q0_l:List TokenToken) (q0_i q0_at q0_bad:Int) (r:TreeBind×Int×Int×Int) (C:Cf):Prop:=C 239 [.cells [slv tokenTokenL q0_l .no,ai q0_i,ai q0_at,ai q0_bad]] [.mp 0 0] (treeBindA r.1) [.cells [slv tokenTokenL q0_l .no,ai r.2.1,ai r.2.2.1,ai r.2.2.2]] 0
theorem q239:Qf 239 Tryz.f239:=⟨Tryz.func239,by kernel_rfl⟩
theorem k239{q0_l q0_i q0_at q0_bad r}(h:K239 q0_l q0_i q0_at q0_bad r Ci):K239 q0_l q0_i q0_at q0_bad r Ct:=⟨h,⟨(lz rfl),tv⟩,(forall_cons ⟨⟨tv,dTokenToken _⟩,tv,tv,tv,tv⟩ forall_nil),⟨tv,tv,tv,tv,tv,tv,dTreeNode _,tv⟩,(forall_cons ⟨dTokenToken _,tv,tv,tv,tv⟩ forall_nil)⟩
theorem c239{qq q0_l q0_i q0_at q0_bad r}(h:e239 qq q0_l q0_i q0_at q0_bad=some r):K239 q0_l q0_i q0_at q0_bad r Ct:=by
 unfold e239 at h
 obtain⟨r1,h2,h⟩:=obind h
 obtain⟨r3,h4,h⟩:=obind h
 obtain⟨r5,h6,h⟩:=obind h
 obtain⟨r7,h8,h⟩:=obind h
 obtain rfl:=sj h
 exact k239 (tF q239 3 [0] (oD (dTreeNode r7.1.sub_)<|oD (dTokenToken q0_l)<|oC 0 [0] (c122 h8)<|oC 1 [0] (c146 h6)<|oC 0 [0] (c142 h4)<|oC 0 [0] (c86 h2) o0))
def e149(qq:Nat)(q0_l:List TokenToken)(q0_i q0_at q0_bad:Int):Option (TreeBind×Int×Int×Int):=
 e239 qq q0_l q0_i q0_at q0_bad>>=fun r1=>
 e146 qq q0_l r1.2.1 r1.2.2.1 r1.2.2.2 (⟨#[59]⟩:ByteArray)>>=fun r3=>
 some (r1.1,r3.1,r3.2.1,r3.2.2)
abbrev K149 (q0_l:List TokenToken) (q0_i q0_at q0_bad:Int) (r:TreeBind×Int×Int×Int) (C:Cf):Prop:=C 149 [.cells [slv tokenTokenL q0_l .no,ai q0_i,ai q0_at,ai q0_bad]] [.mp 0 0] (treeBindA r.1) [.cells [slv tokenTokenL q0_l .no,ai r.2.1,ai r.2.2.1,ai r.2.2.2]] 0
theorem q149:Qf 149 Tryz.f149:=⟨Tryz.func149,by kernel_rfl⟩
theorem k149{q0_l q0_i q0_at q0_bad r}(h:K149 q0_l q0_i q0_at q0_bad r Ci):K149 q0_l q0_i q0_at q0_bad r Ct:=⟨h,⟨(lz rfl),tv⟩,(forall_cons ⟨⟨tv,dTokenToken _⟩,tv,tv,tv,tv⟩ forall_nil),⟨tv,tv,tv,tv,tv,tv,dTreeNode _,tv⟩,(forall_cons ⟨dTokenToken _,tv,tv,tv,tv⟩ forall_nil)⟩
theorem c149{qq q0_l q0_i q0_at q0_bad r}(h:e149 qq q0_l q0_i q0_at q0_bad=some r):K149 q0_l q0_i q0_at q0_bad r Ct:=by
 unfold e149 at h
 obtain⟨r1,h2,h⟩:=obind h
 obtain⟨r3,h4,h⟩:=obind h
 obtain rfl:=sj h
 exact k149 (tF q149 2 [0] (oD (dTreeNode r1.1.type_.sub_)<|oD (dTokenToken q0_l)<|oC 1 [0] (c146 h4)<|oC 0 [0] (c239 h2) o0))
def e143vabdLbe:Nat->(List TokenToken)->Int->(List TreeBind)->Int->Int->Int->Option (List TreeBind×Int×Int×Int)
 |0,_,_,_,_,_,_=>none
 |qq+1,q0,p1,v9,vb0_1,vb0_2,vb0_3=>
 if vb0_3==0 then
 e148 qq q0 vb0_1 vb0_2 vb0_3>>=fun r2=>
 if r2 then
 if decide ((List.length v9:Int)≥p1)then
 none
 else
 e149 qq q0 vb0_1 vb0_2 vb0_3>>=fun r10=>
 gapp 88 v9 [r10.1]>>=fun l12=>
 e143vabdLbe qq q0 p1 l12 r10.2.1 r10.2.2.1 r10.2.2.2
 else
 some (v9,vb0_1,vb0_2,vb0_3)
 else
 none
def e143vabd(qq:Nat)(q0:List TokenToken)(q1 q2 q3 p1:Int):Option (List TreeBind×Int×Int×Int):=
 e143vabdLbe qq q0 p1 [] q1 q2 q3
def g143vabdLbeE0(j:Nat->Value)(q0:List TokenToken)(p1:Int)(v9:List TreeBind)(vb0_1 vb0_2 vb0_3:Int):=sp j 34 0 [(0,.mp 0 0),(1,ai p1),(2,.clo 148 [.mp 0 0] []),(3,.clo 149 [.mp 0 0] []),(9,slv treeBindL v9 (.st 0 7))]
def g143vabdLbeS0(q0:List TokenToken)(p1:Int)(v9:List TreeBind)(vb0_1 vb0_2 vb0_3:Int):LSt:=⟨[(0,.cells [slv tokenTokenL q0 .no,ai vb0_1,ai vb0_2,ai vb0_3])],1,[0],1,[]⟩
abbrev K143vabd (q0:List TokenToken) (q1 q2 q3 p1:Int) (r:List TreeBind×Int×Int×Int) (C:Cf):Prop:=C 143 [.cells [slv tokenTokenL q0 .no,ai q1,ai q2,ai q3]] [.mp 0 0,ai p1,.clo 148 [.mp 0 0] [],.clo 149 [.mp 0 0] []] (.sl (flat treeBindL r.1) (List.length r.1) .no) [.cells [slv tokenTokenL q0 .no,ai r.2.1,ai r.2.2.1,ai r.2.2.2]] 0
theorem q143vabd:Qf 143 Tryz.f143:=⟨Tryz.func143,by kernel_rfl⟩
theorem k143vabd{q0 q1 q2 q3 p1 r}(h:K143vabd q0 q1 q2 q3 p1 r Ci):K143vabd q0 q1 q2 q3 p1 r Ct:=⟨h,⟨(lz rfl),tv,⟨⟨(lz rfl),tv⟩,tv⟩,⟨⟨(lz rfl),tv⟩,tv⟩,tv⟩,(forall_cons ⟨⟨tv,dTokenToken _⟩,tv,tv,tv,tv⟩ forall_nil),dTreeBind _,(forall_cons ⟨dTokenToken _,tv,tv,tv,tv⟩ forall_nil)⟩
theorem l143vabdLbe:∀qq:Nat,(∀q0 p1 v9 vb0_1 vb0_2 vb0_3 r,e143vabdLbe qq q0 p1 v9 vb0_1 vb0_2 vb0_3=some r->(∀j,Dl Tryz.prog 1 (inn (inn (lft (rgt (rgt (bod Tryz.f143)))))) (g143vabdLbeE0 j q0 p1 v9 vb0_1 vb0_2 vb0_3) (g143vabdLbeS0 q0 p1 v9 vb0_1 vb0_2 vb0_3) (frameQ Tryz.prog 1 (FinQ Tryz.prog 1 Tryz.f143 (.sl (flat treeBindL r.1) (List.length r.1) .no) [.cells [slv tokenTokenL q0 .no,ai r.2.1,ai r.2.2.1,ai r.2.2.2]] 0) [.blk 0,.seq (rgt (rgt (rgt (bod Tryz.f143))))]))):=by
 intro qq
 induction qq with
 |zero=>
  exact fun _ _ _ _ _ _ _ h=>nn h
 |succ qq ih=>
  intro q0 p1 v9 vb0_1 vb0_2 vb0_3 r h
  rw[e143vabdLbe]at h
  obtain⟨h1,h⟩:=spT h
  obtain⟨r2,h3,h⟩:=obind h
  have k:=oB 1 h1 o0
  rcases spl h with⟨h4,h⟩|⟨h4,h⟩
  have k:=oK 0 [0] h4 (c148 h3) k
  obtain⟨h5,h⟩:=splF h
  obtain⟨r10,h11,h⟩:=obind h
  obtain⟨l12,h13,h⟩:=obind h
  exact fun j=>lH 0 [] [0] [1] [0,1,2,3,9] (oD (dTreeBind l12)<|oD (dTokenToken q0)<|oP 1 (apS90 h13 (by simp))<|oC 0 [0] (c149 h11)<|oB 1 h5 k) (ih _ _ _ _ _ _ _ h)
  obtain rfl:=sj h
  exact fun j=>lF 0 [0] (oD (dTreeBind v9)<|oD (dTokenToken q0)<|oK 0 [0] h4 (c148 h3) k)
theorem c143vabd{qq q0 q1 q2 q3 p1 r}(h:e143vabd qq q0 q1 q2 q3 p1=some r):K143vabd q0 q1 q2 q3 p1 r Ct:=by
 unfold e143vabd at h
 exact k143vabd (tH q143vabd 0 [(none,9,7)] [0] [0] [0,1,2,3,9] (oD (dTreeBind ([]:List TreeBind))<|oD (dTokenToken q0) o0) (l143vabdLbe _ _ _ _ _ _ _ _ h))
def e144(qq:Nat)(q0_l:List TokenToken)(q0_i q0_at q0_bad:Int):Option (Bool):=
 e237 qq q0_l q0_i q0_at q0_bad 0 (⟨#[40]⟩:ByteArray)>>=fun r1=>
 some r1
abbrev K144 (q0_l:List TokenToken) (q0_i q0_at q0_bad:Int) (r:Bool) (C:Cf):Prop:=C 144 [.cells [slv tokenTokenL q0_l .no,ai q0_i,ai q0_at,ai q0_bad]] [.mp 0 0] (ab r) [.cells [slv tokenTokenL q0_l .no,ai q0_i,ai q0_at,ai q0_bad]] 0
theorem q144:Qf 144 Tryz.f144:=⟨Tryz.func144,by kernel_rfl⟩
theorem k144{q0_l q0_i q0_at q0_bad r}(h:K144 q0_l q0_i q0_at q0_bad r Ci):K144 q0_l q0_i q0_at q0_bad r Ct:=⟨h,⟨(lz rfl),tv⟩,(forall_cons ⟨⟨tv,dTokenToken _⟩,tv,tv,tv,tv⟩ forall_nil),tv,(forall_cons ⟨dTokenToken _,tv,tv,tv,tv⟩ forall_nil)⟩
theorem c144{qq q0_l q0_i q0_at q0_bad r}(h:e144 qq q0_l q0_i q0_at q0_bad=some r):K144 q0_l q0_i q0_at q0_bad r Ct:=by
 unfold e144 at h
 obtain⟨r1,h2,h⟩:=obind h
 obtain rfl:=sj h
 exact k144 (tF q144 0 [0] (oD (dTokenToken q0_l)<|oC 0 [0] (c237 h2) o0))
def e143vabfLbe(qq:Nat)(q0:List TokenToken)(p1:Int)(v9:List TreeBind)(vb0_1 vb0_2 vb0_3:Int):Option (List TreeBind×Int×Int×Int):=
 if vb0_3==0 then
 e144 qq q0 vb0_1 vb0_2 vb0_3>>=fun r2=>
 if r2 then
 none
 else
 some (v9,vb0_1,vb0_2,vb0_3)
 else
 none
def e143vabf(qq:Nat)(q0:List TokenToken)(q1 q2 q3 p1:Int):Option (List TreeBind×Int×Int×Int):=
 e143vabfLbe qq q0 p1 [] q1 q2 q3
def g143vabfLbeE0(j:Nat->Value)(q0:List TokenToken)(p1:Int)(v9:List TreeBind)(vb0_1 vb0_2 vb0_3:Int):=sp j 34 0 [(0,.mp 0 0),(1,ai p1),(2,.clo 144 [.mp 0 0] []),(3,.clo 145 [.mp 0 0] []),(9,slv treeBindL v9 (.st 0 7))]
def g143vabfLbeS0(q0:List TokenToken)(p1:Int)(v9:List TreeBind)(vb0_1 vb0_2 vb0_3:Int):LSt:=⟨[(0,.cells [slv tokenTokenL q0 .no,ai vb0_1,ai vb0_2,ai vb0_3])],1,[0],1,[]⟩
abbrev K143vabf (q0:List TokenToken) (q1 q2 q3 p1:Int) (r:List TreeBind×Int×Int×Int) (C:Cf):Prop:=C 143 [.cells [slv tokenTokenL q0 .no,ai q1,ai q2,ai q3]] [.mp 0 0,ai p1,.clo 144 [.mp 0 0] [],.clo 145 [.mp 0 0] []] (.sl (flat treeBindL r.1) (List.length r.1) .no) [.cells [slv tokenTokenL q0 .no,ai r.2.1,ai r.2.2.1,ai r.2.2.2]] 0
theorem q143vabf:Qf 143 Tryz.f143:=⟨Tryz.func143,by kernel_rfl⟩
theorem k143vabf{q0 q1 q2 q3 p1 r}(h:K143vabf q0 q1 q2 q3 p1 r Ci):K143vabf q0 q1 q2 q3 p1 r Ct:=⟨h,⟨(lz rfl),tv,⟨⟨(lz rfl),tv⟩,tv⟩,⟨⟨(lz rfl),tv⟩,tv⟩,tv⟩,(forall_cons ⟨⟨tv,dTokenToken _⟩,tv,tv,tv,tv⟩ forall_nil),dTreeBind _,(forall_cons ⟨dTokenToken _,tv,tv,tv,tv⟩ forall_nil)⟩
theorem l143vabfLbe(qq q0 p1 v9 vb0_1 vb0_2 vb0_3 r)(h:e143vabfLbe qq q0 p1 v9 vb0_1 vb0_2 vb0_3=some r):(∀j,Dl Tryz.prog 1 (inn (inn (lft (rgt (rgt (bod Tryz.f143)))))) (g143vabfLbeE0 j q0 p1 v9 vb0_1 vb0_2 vb0_3) (g143vabfLbeS0 q0 p1 v9 vb0_1 vb0_2 vb0_3) (frameQ Tryz.prog 1 (FinQ Tryz.prog 1 Tryz.f143 (.sl (flat treeBindL r.1) (List.length r.1) .no) [.cells [slv tokenTokenL q0 .no,ai r.2.1,ai r.2.2.1,ai r.2.2.2]] 0) [.blk 0,.seq (rgt (rgt (rgt (bod Tryz.f143))))])):=by
 unfold e143vabfLbe at h
 obtain⟨h1,h⟩:=spT h
 obtain⟨r2,h3,h⟩:=obind h
 have k:=oB 1 h1 o0
 obtain⟨h4,h⟩:=splF h
 obtain rfl:=sj h
 exact fun j=>lF 0 [0] (oD (dTreeBind v9)<|oD (dTokenToken q0)<|oK 0 [0] h4 (c144 h3) k)
theorem c143vabf{qq q0 q1 q2 q3 p1 r}(h:e143vabf qq q0 q1 q2 q3 p1=some r):K143vabf q0 q1 q2 q3 p1 r Ct:=by
 unfold e143vabf at h
 exact k143vabf (tH q143vabf 0 [(none,9,7)] [0] [0] [0,1,2,3,9] (oD (dTreeBind ([]:List TreeBind))<|oD (dTokenToken q0) o0) (l143vabfLbe qq _ _ _ _ _ _ _ h))
def e87(qq:Nat)(q0_l:List TokenToken)(q0_i q0_at q0_bad:Int):Option (TreeDecl×Int×Int×Int):=
 e140 qq q0_l q0_i q0_at q0_bad>>=fun r1=>
 e86 qq q0_l q0_i q0_at q0_bad 0>>=fun r3=>
 if r1==0 then
 none
 else
 e142 qq q0_l (w64 (q0_i+1)) q0_at q0_bad>>=fun r8=>
 if r1 != 3 then
 e143vabf qq q0_l r8.2.1 r8.2.2.1 r8.2.2.2 24>>=fun r11=>
 e146 qq q0_l r11.2.1 r11.2.2.1 r11.2.2.2 (⟨#[58]⟩:ByteArray)>>=fun r13=>
 e122 qq q0_l r13.1 r13.2.1 r13.2.2>>=fun r15=>
 e146 qq q0_l r15.2.1 r15.2.2.1 r15.2.2.2 (⟨#[123]⟩:ByteArray)>>=fun r17=>
 if r1==3 then
 none
 else
 e143vabd qq q0_l r17.1 r17.2.1 r17.2.2 16>>=fun r24=>
 e146 qq q0_l r24.2.1 r24.2.2.1 r24.2.2.2 (⟨#[125]⟩:ByteArray)>>=fun r26=>
 some ((TreeDecl.mk r1 r3.at_ r8.1 r11.1 r15.1 r24.1 []),r26.1,r26.2.1,r26.2.2)
 else
 none
abbrev K87 (q0_l:List TokenToken) (q0_i q0_at q0_bad:Int) (r:TreeDecl×Int×Int×Int) (C:Cf):Prop:=C 87 [.cells [slv tokenTokenL q0_l .no,ai q0_i,ai q0_at,ai q0_bad]] [.mp 0 0] (treeDeclA r.1) [.cells [slv tokenTokenL q0_l .no,ai r.2.1,ai r.2.2.1,ai r.2.2.2]] 0
theorem q87:Qf 87 Tryz.f87:=⟨Tryz.func87,by kernel_rfl⟩
theorem k87{q0_l q0_i q0_at q0_bad r}(h:K87 q0_l q0_i q0_at q0_bad r Ci):K87 q0_l q0_i q0_at q0_bad r Ct:=⟨h,⟨(lz rfl),tv⟩,(forall_cons ⟨⟨tv,dTokenToken _⟩,tv,tv,tv,tv⟩ forall_nil),⟨tv,tv,tv,dTreeBind _,tv,tv,tv,tv,dTreeNode _,dTreeBind _,dTreeRow _,tv⟩,(forall_cons ⟨dTokenToken _,tv,tv,tv,tv⟩ forall_nil)⟩
theorem c87{qq q0_l q0_i q0_at q0_bad r}(h:e87 qq q0_l q0_i q0_at q0_bad=some r):K87 q0_l q0_i q0_at q0_bad r Ct:=by
 unfold e87 at h
 obtain⟨r1,h2,h⟩:=obind h
 obtain⟨r3,h4,h⟩:=obind h
 have k:=oC 0 [0] (c86 h4)<|oC 0 [0] (c140 h2) o0
 obtain⟨h5,h⟩:=splF h
 obtain⟨r8,h9,h⟩:=obind h
 have k:=oC 3 [0] (c142 h9)<|oB 2 h5 k
 obtain⟨h10,h⟩:=spT h
 obtain⟨r11,h12,h⟩:=obind h
 obtain⟨r13,h14,h⟩:=obind h
 obtain⟨r15,h16,h⟩:=obind h
 obtain⟨r17,h18,h⟩:=obind h
 have k:=oC 1 [0] (c146 h18)<|oC 0 [0] (c122 h16)<|oC 1 [0] (c146 h14)<|oC 0 [0] (c143vabf h12)<|oB 2 h10 k
 obtain⟨h19,h⟩:=splF h
 obtain⟨r24,h25,h⟩:=obind h
 obtain⟨r26,h27,h⟩:=obind h
 obtain rfl:=sj h
 exact k87 (tF q87 2 [0] (oD (dTreeRow ([]:List TreeRow))<|oD (dTreeBind r24.1)<|oD (dTreeNode r15.1.sub_)<|oD (dTreeBind r11.1)<|oD (dTokenToken q0_l)<|oC 1 [0] (c146 h27)<|oC 0 [0] (c143vabd h25)<|oB 1 h19 k))
def e49Lbg:Nat->ByteArray->(List TokenToken×Int×Int×Int)->(List TreeDecl)->Int->Int->Int->Option (List TreeDecl×Int×Int)
 |0,_,_,_,_,_,_=>none
 |qq+1,p0,r1,v6,vb0_1,vb0_2,vb0_3=>
 if vb0_3==0 then
 e86 qq r1.1 vb0_1 vb0_2 vb0_3 0>>=fun r4=>
 if r4.kind_ != 5 then
 e87 qq r1.1 vb0_1 vb0_2 vb0_3>>=fun r7=>
 gapp 168 v6 [r7.1]>>=fun l9=>
 e49Lbg qq p0 r1 l9 r7.2.1 r7.2.2.1 r7.2.2.2
 else
 if vb0_3 != 0 then
 none
 else
 some (v6,(p0.size:Int),0)
 else
 none
def e49(qq:Nat)(p0:ByteArray):Option (List TreeDecl×Int×Int):=
 e85 qq p0>>=fun r1=>
 e49Lbg qq p0 r1 [] r1.2.1 r1.2.2.1 r1.2.2.2
def g49LbgE0(j:Nat->Value)(p0:ByteArray)(r1:List TokenToken×Int×Int×Int)(v6:List TreeDecl)(vb0_1 vb0_2 vb0_3:Int):=sp j 41 0 [(0,at' p0),(5,.mp 0 0),(6,slv treeDeclL v6 (.st 0 11))]
def g49LbgS0(p0:ByteArray)(r1:List TokenToken×Int×Int×Int)(v6:List TreeDecl)(vb0_1 vb0_2 vb0_3:Int):LSt:=⟨[(0,.cells [slv tokenTokenL r1.1 .no,ai vb0_1,ai vb0_2,ai vb0_3])],1,[0],1,[]⟩
abbrev K49 (p0:ByteArray) (r:List TreeDecl×Int×Int) (C:Cf):Prop:=C 49 [] [at' p0] (.tup [.sl (flat treeDeclL r.1) (List.length r.1) .no,ai r.2.1,ai r.2.2]) [] 0
theorem q49:Qf 49 Tryz.f49:=⟨Tryz.func49,by kernel_rfl⟩
theorem k49{p0 r}(h:K49 p0 r Ci):K49 p0 r Ct:=⟨h,⟨tv,tv⟩,forall_nil,⟨dTreeDecl _,tv,tv,tv⟩,forall_nil⟩
theorem l49Lbg:∀qq:Nat,(∀p0 r1 v6 vb0_1 vb0_2 vb0_3 r,e49Lbg qq p0 r1 v6 vb0_1 vb0_2 vb0_3=some r->(∀j,Dl Tryz.prog 0 (inn (inn (lft (rgt (rgt (rgt (bod Tryz.f49))))))) (g49LbgE0 j p0 r1 v6 vb0_1 vb0_2 vb0_3) (g49LbgS0 p0 r1 v6 vb0_1 vb0_2 vb0_3) (frameQ Tryz.prog 0 (FinQ Tryz.prog 0 Tryz.f49 (.tup [.sl (flat treeDeclL r.1) (List.length r.1) .no,ai r.2.1,ai r.2.2]) [] 0) [.blk 0,.seq (rgt (rgt (rgt (rgt (bod Tryz.f49)))))]))):=by
 intro qq
 induction qq with
 |zero=>
  exact fun _ _ _ _ _ _ _ h=>nn h
 |succ qq ih=>
  intro p0 r1 v6 vb0_1 vb0_2 vb0_3 r h
  rw[e49Lbg]at h
  obtain⟨h3,h⟩:=spT h
  obtain⟨r4,h5,h⟩:=obind h
  have k:=oC 0 [0] (c86 h5)<|oB 1 h3 o0
  rcases spl h with⟨h6,h⟩|⟨h6,h⟩
  obtain⟨r7,h8,h⟩:=obind h
  obtain⟨l9,h10,h⟩:=obind h
  exact fun j=>lH 0 [] [0] [1] [0,5,6] (oD (dTreeDecl l9)<|oD (dTokenToken r1.1)<|oP 1 (apS119 h10 (by simp))<|oC 0 [0] (c87 h8)<|oB 0 h6 k) (ih _ _ _ _ _ _ _ h)
  have k:=oB 0 h6 k
  obtain⟨h11,h⟩:=splF h
  obtain rfl:=sj h
  exact fun j=>lF 1 [] (oD (dTreeDecl v6)<|oB 1 h11 k)
theorem c49{qq p0 r}(h:e49 qq p0=some r):K49 p0 r Ct:=by
 unfold e49 at h
 obtain⟨r1,h2,h⟩:=obind h
 exact k49 (tH q49 0 [(none,6,11)] [0] [0] [0,5,6] (oD (dTreeDecl ([]:List TreeDecl))<|oD (dTokenToken r1.1)<|oC 0 [] (c85 h2) o0) (l49Lbg _ _ _ _ _ _ _ _ h))
def e58vabh(qq:Nat)(q0 q1 p1:Int):Option (Int):=
 some p1
abbrev K58vabh (q0 q1 p1 r:Int) (C:Cf):Prop:=C 58 [.cells [ai q0,ai q1]] [.mp 0 0,ai p1] (.tup []) [.cells [ai r,ai q1]] 0
theorem q58vabh:Qf 58 Tryz.f58:=⟨Tryz.func58,by kernel_rfl⟩
theorem k58vabh{q0 q1 p1 r}(h:K58vabh q0 q1 p1 r Ci):K58vabh q0 q1 p1 r Ct:=⟨h,⟨(lz rfl),tv,tv⟩,(forall_cons ⟨tv,tv,tv⟩ forall_nil),tv,(forall_cons ⟨tv,tv,tv⟩ forall_nil)⟩
theorem c58vabh{qq q0 q1 p1 r}(h:e58vabh qq q0 q1 p1=some r):K58vabh q0 q1 p1 r Ct:=by
 unfold e58vabh at h
 obtain rfl:=sj h
 exact k58vabh (tF q58vabh 1 [0] (o0))
def e37(qq:Nat)(p0:Int):Option (Int×Int×Int):=
 if decide (p0<0)then
 none
 else
 if decide (p0>1048576)then
 none
 else
 e58vabh qq 0 0 p0>>=fun r3=>
 some (0,r3,0)
abbrev K37 (p0:Int) (r:Int×Int×Int) (C:Cf):Prop:=C 37 [] [ai p0] (.tup [.mp 0 0,ai r.1]) [.cells [ai r.2.1,ai r.2.2]] 0
theorem q37:Qf 37 Tryz.f37:=⟨Tryz.func37,by kernel_rfl⟩
theorem k37{p0 r}(h:K37 p0 r Ci):K37 p0 r Ct:=⟨h,⟨tv,tv⟩,forall_nil,⟨(lz rfl),tv,tv⟩,(forall_cons ⟨tv,tv,tv⟩ forall_nil)⟩
theorem c37{qq p0 r}(h:e37 qq p0=some r):K37 p0 r Ct:=by
 unfold e37 at h
 obtain⟨h1,h⟩:=splF h
 have k:=oB 0 h1 o0
 obtain⟨h2,h⟩:=splF h
 obtain⟨r3,h4,h⟩:=obind h
 obtain rfl:=sj h
 exact k37 (tF q37 0 [0] (oC 0 [0] (c58vabh h4)<|oB 0 h2 k))
def e81vabi(qq:Nat)(q0 q1:Int):Option (Int):=
 some q1
abbrev K81vabi (q0 q1 r:Int) (C:Cf):Prop:=C 81 [.cells [ai q0,ai q1]] [.mp 0 1] (ai r) [.cells [ai q0,ai q1]] 0
theorem q81vabi:Qf 81 Tryz.f81:=⟨Tryz.func81,by kernel_rfl⟩
theorem k81vabi{q0 q1 r}(h:K81vabi q0 q1 r Ci):K81vabi q0 q1 r Ct:=⟨h,⟨(lz rfl),tv⟩,(forall_cons ⟨tv,tv,tv⟩ forall_nil),tv,(forall_cons ⟨tv,tv,tv⟩ forall_nil)⟩
theorem c81vabi{qq q0 q1 r}(h:e81vabi qq q0 q1=some r):K81vabi q0 q1 r Ct:=by
 unfold e81vabi at h
 obtain rfl:=sj h
 exact k81vabi (tF q81vabi 1 [0] (o0))
def e47(qq:Nat)(fl fu:Int):Option (Int):=
 e81vabi qq fl fu>>=fun r1=>
 some r1
abbrev K47 (fl fu r:Int) (C:Cf):Prop:=C 47 [.cells [ai fl,ai fu]] [.mp 0 0] (ai r) [.cells [ai fl,ai fu]] 0
theorem q47:Qf 47 Tryz.f47:=⟨Tryz.func47,by kernel_rfl⟩
theorem k47{fl fu r}(h:K47 fl fu r Ci):K47 fl fu r Ct:=⟨h,⟨(lz rfl),tv⟩,(forall_cons ⟨tv,tv,tv⟩ forall_nil),tv,(forall_cons ⟨tv,tv,tv⟩ forall_nil)⟩
theorem c47{qq fl fu r}(h:e47 qq fl fu=some r):K47 fl fu r Ct:=by
 unfold e47 at h
 obtain⟨r1,h2,h⟩:=obind h
 obtain rfl:=sj h
 exact k47 (tF q47 0 [0] (oC 1 [0] (c81vabi h2) o0))
mutual
def e150vabjLbk:Nat->(List Ent)->Int->Int->ByteArray->(List TreeBind)->Int->Int->ByteArray->Int->(List TreeNode)->(List TreeBind)->(List TreeRow)->Int->Int->(List TreeBind)->(List ByteArray)->Int->Int->Int->Option (Int×Int)
 |0,_,_,_,_,_,_,_,_,_,_,_,_,_,_,_,_,_,_,_=>none
 |qq+1,q0,q1,q2,q3,q4,q5,q6,q7,q8,q9,q10,q11,q12,q13,l3,v2,v33,vb0_15,vb0_16=>
 if decide (v33<(List.length l3:Int))then
 gidx l3 v33>>=fun x7=>
 e150vabjLbl qq q0 q1 q2 q3 q4 q5 q6 q7 q8 q9 q10 q11 q12 q13 l3 v2 v33 x7 0 vb0_15 vb0_16
 else
 some (vb0_15,vb0_16)
def e150vabjLbl:Nat->(List Ent)->Int->Int->ByteArray->(List TreeBind)->Int->Int->ByteArray->Int->(List TreeNode)->(List TreeBind)->(List TreeRow)->Int->Int->(List TreeBind)->(List ByteArray)->Int->TreeBind->Int->Int->Int->Option (Int×Int)
 |0,_,_,_,_,_,_,_,_,_,_,_,_,_,_,_,_,_,_,_,_,_=>none
 |qq+1,q0,q1,q2,q3,q4,q5,q6,q7,q8,q9,q10,q11,q12,q13,l3,v2,v33,x7,v39,vb0_15,vb0_16=>
 if decide (v39<(List.length v2:Int))then
 gidx v2 v39>>=fun x10=>
 if x10.toList==x7.name_.toList then
 none
 else
 e150vabjLbl qq q0 q1 q2 q3 q4 q5 q6 q7 q8 q9 q10 q11 q12 q13 l3 v2 v33 x7 (w64 (v39+1)) vb0_15 vb0_16
 else
 gapp 16 v2 [x7.name_]>>=fun l15=>
 e150vabjLbk qq q0 q1 q2 q3 q4 q5 q6 q7 q8 q9 q10 q11 q12 q13 l3 l15 (w64 (v33+1)) vb0_15 vb0_16
end
def e150vabj(qq:Nat)(q0:List Ent)(q1 q2:Int)(q3:ByteArray)(q4:List TreeBind)(q5 q6:Int)(q7:ByteArray)(q8:Int)(q9:List TreeNode)(q10:List TreeBind)(q11:List TreeRow)(q12 q13 q14 q15:Int):Option (Int×Int):=
 e83 qq q0>>=fun r1=>
 gapp 88 [(TreeBind.mk q3 q2 (TreeNode.mk 0 0 (⟨#[]⟩:ByteArray) 0 []))] q10>>=fun l3=>
 e150vabjLbk qq q0 q1 q2 q3 q4 q5 q6 q7 q8 q9 q10 q11 q12 q13 l3 r1 0 q14 q15
def g150vabjLbkE0(j:Nat->Value)(q0:List Ent)(q1 q2:Int)(q3:ByteArray)(q4:List TreeBind)(q5 q6:Int)(q7:ByteArray)(q8:Int)(q9:List TreeNode)(q10:List TreeBind)(q11:List TreeRow)(q12 q13:Int)(l3:List TreeBind)(v2:List ByteArray)(v33 vb0_15 vb0_16:Int):=sp j 58 0 [(0,.mp 0 0),(2,slv strC v2 (.st 0 1)),(31,slv treeBindL l3 .full),(32,ai (List.length l3:Int)),(33,ai v33)]
def g150vabjLbkS0(q0:List Ent)(q1 q2:Int)(q3:ByteArray)(q4:List TreeBind)(q5 q6:Int)(q7:ByteArray)(q8:Int)(q9:List TreeNode)(q10:List TreeBind)(q11:List TreeRow)(q12 q13:Int)(l3:List TreeBind)(v2:List ByteArray)(v33 vb0_15 vb0_16:Int):LSt:=⟨[(0,.cells [slv entL q0 .no,ai q1,ai q2,at' q3,slv treeBindL q4 .no,ai q5,ai q6,at' q7,ai q8,slv treeNodeC q9 .no,slv treeBindL q10 .no,slv treeRowL q11 .no,.mp 1 0,slv tmCells ([]:List Tm) .nl,slv strC ([]:List ByteArray) .nl,ai vb0_15,ai vb0_16]),(1,.cells [ai q12,ai q13])],2,[0],1,[]⟩
def g150vabjLbkE1(j:Nat->Value)(q0:List Ent)(q1 q2:Int)(q3:ByteArray)(q4:List TreeBind)(q5 q6:Int)(q7:ByteArray)(q8:Int)(q9:List TreeNode)(q10:List TreeBind)(q11:List TreeRow)(q12 q13:Int)(l3:List TreeBind)(v2:List ByteArray)(v33 vb0_15 vb0_16:Int):=sp j 58 0 [(0,.mp 0 0),(2,slv strC v2 (.st 0 1)),(31,slv treeBindL l3 (.st 1 7)),(32,ai (List.length l3:Int)),(33,ai v33)]
def g150vabjLbkS1(q0:List Ent)(q1 q2:Int)(q3:ByteArray)(q4:List TreeBind)(q5 q6:Int)(q7:ByteArray)(q8:Int)(q9:List TreeNode)(q10:List TreeBind)(q11:List TreeRow)(q12 q13:Int)(l3:List TreeBind)(v2:List ByteArray)(v33 vb0_15 vb0_16:Int):LSt:=⟨[(0,.cells [slv entL q0 .no,ai q1,ai q2,at' q3,slv treeBindL q4 .no,ai q5,ai q6,at' q7,ai q8,slv treeNodeC q9 .no,slv treeBindL q10 .no,slv treeRowL q11 .no,.mp 1 0,slv tmCells ([]:List Tm) .nl,slv strC ([]:List ByteArray) .nl,ai vb0_15,ai vb0_16]),(1,.cells [ai q12,ai q13])],2,[0,1],2,[]⟩
def g150vabjLblE0(j:Nat->Value)(q0:List Ent)(q1 q2:Int)(q3:ByteArray)(q4:List TreeBind)(q5 q6:Int)(q7:ByteArray)(q8:Int)(q9:List TreeNode)(q10:List TreeBind)(q11:List TreeRow)(q12 q13:Int)(l3:List TreeBind)(v2:List ByteArray)(v33:Int)(x7:TreeBind)(v39 vb0_15 vb0_16:Int):=sp j 58 0 [(0,.mp 0 0),(2,slv strC v2 (.st 0 1)),(5,.mp 2 0),(31,slv treeBindL l3 .full),(32,ai (List.length l3:Int)),(33,ai v33),(37,slv strC v2 (.st 0 1)),(38,ai (List.length v2:Int)),(39,ai v39)]
def g150vabjLblS0(q0:List Ent)(q1 q2:Int)(q3:ByteArray)(q4:List TreeBind)(q5 q6:Int)(q7:ByteArray)(q8:Int)(q9:List TreeNode)(q10:List TreeBind)(q11:List TreeRow)(q12 q13:Int)(l3:List TreeBind)(v2:List ByteArray)(v33:Int)(x7:TreeBind)(v39 vb0_15 vb0_16:Int):LSt:=⟨[(0,.cells [slv entL q0 .no,ai q1,ai q2,at' q3,slv treeBindL q4 .no,ai q5,ai q6,at' q7,ai q8,slv treeNodeC q9 .no,slv treeBindL q10 .no,slv treeRowL q11 .no,.mp 1 0,slv tmCells ([]:List Tm) .nl,slv strC ([]:List ByteArray) .nl,ai vb0_15,ai vb0_16]),(1,.cells [ai q12,ai q13]),(2,.cells [at' x7.name_,ai x7.at_,ai x7.type_.kind_,ai x7.type_.at_,at' x7.type_.name_,ai x7.type_.n_,slv treeNodeC x7.type_.sub_ .no])],3,[0],1,[]⟩
def g150vabjLblE1(j:Nat->Value)(q0:List Ent)(q1 q2:Int)(q3:ByteArray)(q4:List TreeBind)(q5 q6:Int)(q7:ByteArray)(q8:Int)(q9:List TreeNode)(q10:List TreeBind)(q11:List TreeRow)(q12 q13:Int)(l3:List TreeBind)(v2:List ByteArray)(v33:Int)(x7:TreeBind)(v39 vb0_15 vb0_16:Int):=sp j 58 0 [(0,.mp 0 0),(2,slv strC v2 (.st 0 1)),(5,.mp 2 0),(31,slv treeBindL l3 (.st 1 7)),(32,ai (List.length l3:Int)),(33,ai v33),(37,slv strC v2 (.st 0 1)),(38,ai (List.length v2:Int)),(39,ai v39)]
def g150vabjLblS1(q0:List Ent)(q1 q2:Int)(q3:ByteArray)(q4:List TreeBind)(q5 q6:Int)(q7:ByteArray)(q8:Int)(q9:List TreeNode)(q10:List TreeBind)(q11:List TreeRow)(q12 q13:Int)(l3:List TreeBind)(v2:List ByteArray)(v33:Int)(x7:TreeBind)(v39 vb0_15 vb0_16:Int):LSt:=⟨[(0,.cells [slv entL q0 .no,ai q1,ai q2,at' q3,slv treeBindL q4 .no,ai q5,ai q6,at' q7,ai q8,slv treeNodeC q9 .no,slv treeBindL q10 .no,slv treeRowL q11 .no,.mp 1 0,slv tmCells ([]:List Tm) .nl,slv strC ([]:List ByteArray) .nl,ai vb0_15,ai vb0_16]),(1,.cells [ai q12,ai q13]),(2,.cells [at' x7.name_,ai x7.at_,ai x7.type_.kind_,ai x7.type_.at_,at' x7.type_.name_,ai x7.type_.n_,slv treeNodeC x7.type_.sub_ .no])],3,[0,1],2,[]⟩
abbrev K150vabj (q0:List Ent) (q1 q2:Int) (q3:ByteArray) (q4:List TreeBind) (q5 q6:Int) (q7:ByteArray) (q8:Int) (q9:List TreeNode) (q10:List TreeBind) (q11:List TreeRow) (q12 q13 q14 q15:Int) (r:Int×Int) (C:Cf):Prop:=C 150 [.cells [slv entL q0 .no,ai q1,ai q2,at' q3,slv treeBindL q4 .no,ai q5,ai q6,at' q7,ai q8,slv treeNodeC q9 .no,slv treeBindL q10 .no,slv treeRowL q11 .no,.mp 1 0,slv tmCells ([]:List Tm) .nl,slv strC ([]:List ByteArray) .nl,ai q14,ai q15],.cells [ai q12,ai q13]] [.mp 0 0] (.tup []) [.cells [slv entL q0 .no,ai q1,ai q2,at' q3,slv treeBindL q4 .no,ai q5,ai q6,at' q7,ai q8,slv treeNodeC q9 .no,slv treeBindL q10 .no,slv treeRowL q11 .no,.mp 1 0,slv tmCells ([]:List Tm) .nl,slv strC ([]:List ByteArray) .nl,ai r.1,ai r.2],.cells [ai q12,ai q13]] 0
theorem q150vabj:Qf 150 Tryz.f150:=⟨Tryz.func150,by kernel_rfl⟩
theorem k150vabj{q0 q1 q2 q3 q4 q5 q6 q7 q8 q9 q10 q11 q12 q13 q14 q15 r}(h:K150vabj q0 q1 q2 q3 q4 q5 q6 q7 q8 q9 q10 q11 q12 q13 q14 q15 r Ci):K150vabj q0 q1 q2 q3 q4 q5 q6 q7 q8 q9 q10 q11 q12 q13 q14 q15 r Ct:=⟨h,⟨(lz rfl),tv⟩,(forall_cons ⟨⟨tv,dE _⟩,tv,tv,tv,⟨tv,dTreeBind _⟩,tv,tv,tv,tv,⟨tv,dTreeNode _⟩,⟨tv,dTreeBind _⟩,⟨tv,dTreeRow _⟩,(lz rfl),⟨tv,dT _⟩,⟨tv,dS _⟩,tv,tv,tv⟩ (forall_cons ⟨tv,tv,tv⟩ forall_nil)),tv,(forall_cons ⟨dE _,tv,tv,tv,dTreeBind _,tv,tv,tv,tv,dTreeNode _,dTreeBind _,dTreeRow _,(lz rfl),dT _,dS _,tv,tv,tv⟩ (forall_cons ⟨tv,tv,tv⟩ forall_nil))⟩
theorem a150vabjLbk_150vabjLbl:∀qq:Nat,(∀q0 q1 q2 q3 q4 q5 q6 q7 q8 q9 q10 q11 q12 q13 l3 v2 v33 vb0_15 vb0_16 r,e150vabjLbk qq q0 q1 q2 q3 q4 q5 q6 q7 q8 q9 q10 q11 q12 q13 l3 v2 v33 vb0_15 vb0_16=some r->(∀j,Dl Tryz.prog 2 (inn (inn (rgt (rgt (rgt (bod Tryz.f150)))))) (g150vabjLbkE0 j q0 q1 q2 q3 q4 q5 q6 q7 q8 q9 q10 q11 q12 q13 l3 v2 v33 vb0_15 vb0_16) (g150vabjLbkS0 q0 q1 q2 q3 q4 q5 q6 q7 q8 q9 q10 q11 q12 q13 l3 v2 v33 vb0_15 vb0_16) (frameQ Tryz.prog 2 (FinQ Tryz.prog 2 Tryz.f150 (.tup []) [.cells [slv entL q0 .no,ai q1,ai q2,at' q3,slv treeBindL q4 .no,ai q5,ai q6,at' q7,ai q8,slv treeNodeC q9 .no,slv treeBindL q10 .no,slv treeRowL q11 .no,.mp 1 0,slv tmCells ([]:List Tm) .nl,slv strC ([]:List ByteArray) .nl,ai r.1,ai r.2],.cells [ai q12,ai q13]] 0) [.blk 0]))∧(∀j,Dl Tryz.prog 2 (inn (inn (rgt (rgt (rgt (bod Tryz.f150)))))) (g150vabjLbkE1 j q0 q1 q2 q3 q4 q5 q6 q7 q8 q9 q10 q11 q12 q13 l3 v2 v33 vb0_15 vb0_16) (g150vabjLbkS1 q0 q1 q2 q3 q4 q5 q6 q7 q8 q9 q10 q11 q12 q13 l3 v2 v33 vb0_15 vb0_16) (frameQ Tryz.prog 2 (FinQ Tryz.prog 2 Tryz.f150 (.tup []) [.cells [slv entL q0 .no,ai q1,ai q2,at' q3,slv treeBindL q4 .no,ai q5,ai q6,at' q7,ai q8,slv treeNodeC q9 .no,slv treeBindL q10 .no,slv treeRowL q11 .no,.mp 1 0,slv tmCells ([]:List Tm) .nl,slv strC ([]:List ByteArray) .nl,ai r.1,ai r.2],.cells [ai q12,ai q13]] 0) [.blk 0])))∧(∀q0 q1 q2 q3 q4 q5 q6 q7 q8 q9 q10 q11 q12 q13 l3 v2 v33 x7 v39 vb0_15 vb0_16 r,e150vabjLbl qq q0 q1 q2 q3 q4 q5 q6 q7 q8 q9 q10 q11 q12 q13 l3 v2 v33 x7 v39 vb0_15 vb0_16=some r->(∀j,Dl Tryz.prog 2 (inn (inn (rgt (lft (rgt (inn (lft (rgt (rgt (inn (inn (rgt (rgt (rgt (bod Tryz.f150))))))))))))))) (g150vabjLblE0 j q0 q1 q2 q3 q4 q5 q6 q7 q8 q9 q10 q11 q12 q13 l3 v2 v33 x7 v39 vb0_15 vb0_16) (g150vabjLblS0 q0 q1 q2 q3 q4 q5 q6 q7 q8 q9 q10 q11 q12 q13 l3 v2 v33 x7 v39 vb0_15 vb0_16) (frameQ Tryz.prog 2 (FinQ Tryz.prog 2 Tryz.f150 (.tup []) [.cells [slv entL q0 .no,ai q1,ai q2,at' q3,slv treeBindL q4 .no,ai q5,ai q6,at' q7,ai q8,slv treeNodeC q9 .no,slv treeBindL q10 .no,slv treeRowL q11 .no,.mp 1 0,slv tmCells ([]:List Tm) .nl,slv strC ([]:List ByteArray) .nl,ai r.1,ai r.2],.cells [ai q12,ai q13]] 0) [.blk 2,.seq (rgt (rgt (inn (lft (rgt (rgt (inn (inn (rgt (rgt (rgt (bod Tryz.f150)))))))))))),.blk 1,.seq (rgt (rgt (rgt (inn (inn (rgt (rgt (rgt (bod Tryz.f150))))))))),.loop (inn (inn (rgt (rgt (rgt (bod Tryz.f150)))))),.blk 0]))∧(∀j,Dl Tryz.prog 2 (inn (inn (rgt (lft (rgt (inn (lft (rgt (rgt (inn (inn (rgt (rgt (rgt (bod Tryz.f150))))))))))))))) (g150vabjLblE1 j q0 q1 q2 q3 q4 q5 q6 q7 q8 q9 q10 q11 q12 q13 l3 v2 v33 x7 v39 vb0_15 vb0_16) (g150vabjLblS1 q0 q1 q2 q3 q4 q5 q6 q7 q8 q9 q10 q11 q12 q13 l3 v2 v33 x7 v39 vb0_15 vb0_16) (frameQ Tryz.prog 2 (FinQ Tryz.prog 2 Tryz.f150 (.tup []) [.cells [slv entL q0 .no,ai q1,ai q2,at' q3,slv treeBindL q4 .no,ai q5,ai q6,at' q7,ai q8,slv treeNodeC q9 .no,slv treeBindL q10 .no,slv treeRowL q11 .no,.mp 1 0,slv tmCells ([]:List Tm) .nl,slv strC ([]:List ByteArray) .nl,ai r.1,ai r.2],.cells [ai q12,ai q13]] 0) [.blk 2,.seq (rgt (rgt (inn (lft (rgt (rgt (inn (inn (rgt (rgt (rgt (bod Tryz.f150)))))))))))),.blk 1,.seq (rgt (rgt (rgt (inn (inn (rgt (rgt (rgt (bod Tryz.f150))))))))),.loop (inn (inn (rgt (rgt (rgt (bod Tryz.f150)))))),.blk 0]))):=by
 intro qq
 induction qq with
 |zero=>
  exact⟨fun _ _ _ _ _ _ _ _ _ _ _ _ _ _ _ _ _ _ _ _ h=>nn h,fun _ _ _ _ _ _ _ _ _ _ _ _ _ _ _ _ _ _ _ _ _ _ h=>nn h⟩
 |succ qq ih=>
  obtain⟨ih150vabjLbk,ih150vabjLbl⟩:=ih
  refine⟨?_,?_⟩
  intro q0 q1 q2 q3 q4 q5 q6 q7 q8 q9 q10 q11 q12 q13 l3 v2 v33 vb0_15 vb0_16 r h
  rw[e150vabjLbk]at h
  refine⟨?_,?_⟩
  rcases spl h with⟨h6,h⟩|⟨h6,h⟩
  obtain⟨x7,h8,h⟩:=obind h
  exact fun j=>lH 3 [] [0,1,2] [0] [0,2,5,31,32,33,37,38,39] (oD (dS v2)<|oD (dTreeBind l3)<|oD (dS v2)<|oD (dTreeNode x7.type_.sub_)<|oD (dS ([]:List ByteArray))<|oD (dT ([]:List Tm))<|oD (dTreeRow q11)<|oD (dTreeBind q10)<|oD (dTreeNode q9)<|oD (dTreeBind q4)<|oD (dE q0)<|oA 0 (ix90 (o:=.full) h8)<|oB 0 h6 o0) ((ih150vabjLbl _ _ _ _ _ _ _ _ _ _ _ _ _ _ _ _ _ _ _ _ _ _ h).1)
  obtain rfl:=sj h
  exact fun j=>lG 0 [] [0,1] [] true (oD (dS ([]:List ByteArray))<|oD (dT ([]:List Tm))<|oD (dTreeRow q11)<|oD (dTreeBind q10)<|oD (dTreeNode q9)<|oD (dTreeBind q4)<|oD (dE q0)<|oB 0 h6 o0)
  rcases spl h with⟨h6,h⟩|⟨h6,h⟩
  obtain⟨x7,h8,h⟩:=obind h
  exact fun j=>lH 3 [] [0,1,2] [0,1] [0,2,5,31,32,33,37,38,39] (oD (dS v2)<|oD (dTreeBind l3)<|oD (dS v2)<|oD (dTreeNode x7.type_.sub_)<|oD (dS ([]:List ByteArray))<|oD (dT ([]:List Tm))<|oD (dTreeRow q11)<|oD (dTreeBind q10)<|oD (dTreeNode q9)<|oD (dTreeBind q4)<|oD (dE q0)<|oA 0 (ix90 (o:=(.st 1 7)) h8)<|oB 0 h6 o0) ((ih150vabjLbl _ _ _ _ _ _ _ _ _ _ _ _ _ _ _ _ _ _ _ _ _ _ h).2)
  obtain rfl:=sj h
  exact fun j=>lG 0 [] [0,1] [] true (oD (dS ([]:List ByteArray))<|oD (dT ([]:List Tm))<|oD (dTreeRow q11)<|oD (dTreeBind q10)<|oD (dTreeNode q9)<|oD (dTreeBind q4)<|oD (dE q0)<|oB 0 h6 o0)
  intro q0 q1 q2 q3 q4 q5 q6 q7 q8 q9 q10 q11 q12 q13 l3 v2 v33 x7 v39 vb0_15 vb0_16 r h
  rw[e150vabjLbl]at h
  refine⟨?_,?_⟩
  rcases spl h with⟨h9,h⟩|⟨h9,h⟩
  obtain⟨x10,h11,h⟩:=obind h
  have k:=oA 0 (ix56 (o:=(.st 0 1)) h11)<|oB 0 h9 o0
  obtain⟨h12,h⟩:=splF h
  exact fun j=>lH 1 [] [0,1,2] [0] [0,2,5,31,32,33,37,38,39] (oD (dS v2)<|oD (dTreeBind l3)<|oD (dS v2)<|oD (dTreeNode x7.type_.sub_)<|oD (dS ([]:List ByteArray))<|oD (dT ([]:List Tm))<|oD (dTreeRow q11)<|oD (dTreeBind q10)<|oD (dTreeNode q9)<|oD (dTreeBind q4)<|oD (dE q0)<|oB 2 h12 k) ((ih150vabjLbl _ _ _ _ _ _ _ _ _ _ _ _ _ _ _ _ _ _ _ _ _ _ h).1)
  obtain⟨l15,h16,h⟩:=obind h
  exact fun j=>lH 1 [] [0,1] [1] [0,2,31,32,33] (oD (dTreeBind l3)<|oD (dS l15)<|oD (dS ([]:List ByteArray))<|oD (dT ([]:List Tm))<|oD (dTreeRow q11)<|oD (dTreeBind q10)<|oD (dTreeNode q9)<|oD (dTreeBind q4)<|oD (dE q0)<|oP 2 (apS56 h16 (by simp))<|oB 0 h9 o0) ((ih150vabjLbk _ _ _ _ _ _ _ _ _ _ _ _ _ _ _ _ _ _ _ _ h).1)
  rcases spl h with⟨h9,h⟩|⟨h9,h⟩
  obtain⟨x10,h11,h⟩:=obind h
  have k:=oA 0 (ix56 (o:=(.st 0 1)) h11)<|oB 0 h9 o0
  obtain⟨h12,h⟩:=splF h
  exact fun j=>lH 1 [] [0,1,2] [0,1] [0,2,5,31,32,33,37,38,39] (oD (dS v2)<|oD (dTreeBind l3)<|oD (dS v2)<|oD (dTreeNode x7.type_.sub_)<|oD (dS ([]:List ByteArray))<|oD (dT ([]:List Tm))<|oD (dTreeRow q11)<|oD (dTreeBind q10)<|oD (dTreeNode q9)<|oD (dTreeBind q4)<|oD (dE q0)<|oB 2 h12 k) ((ih150vabjLbl _ _ _ _ _ _ _ _ _ _ _ _ _ _ _ _ _ _ _ _ _ _ h).2)
  obtain⟨l15,h16,h⟩:=obind h
  exact fun j=>lH 1 [] [0,1] [2,1] [0,2,31,32,33] (oD (dTreeBind l3)<|oD (dS l15)<|oD (dS ([]:List ByteArray))<|oD (dT ([]:List Tm))<|oD (dTreeRow q11)<|oD (dTreeBind q10)<|oD (dTreeNode q9)<|oD (dTreeBind q4)<|oD (dE q0)<|oP 2 (apS56 h16 (by simp))<|oB 0 h9 o0) ((ih150vabjLbk _ _ _ _ _ _ _ _ _ _ _ _ _ _ _ _ _ _ _ _ h).2)
theorem c150vabj{qq q0 q1 q2 q3 q4 q5 q6 q7 q8 q9 q10 q11 q12 q13 q14 q15 r}(h:e150vabj qq q0 q1 q2 q3 q4 q5 q6 q7 q8 q9 q10 q11 q12 q13 q14 q15=some r):K150vabj q0 q1 q2 q3 q4 q5 q6 q7 q8 q9 q10 q11 q12 q13 q14 q15 r Ct:=by
 unfold e150vabj at h
 obtain⟨r1,h2,h⟩:=obind h
 obtain⟨l3,h4,h⟩:=obind h
 have k:=oC 1 [] (c83 h2) o0
 by_cases h5:List.length q10=0
 exact k150vabj (tH q150vabj 1 [] [0,1] [0] [0,2,31,32,33] (oD (dTreeBind l3)<|oD (dS r1)<|oD (dS ([]:List ByteArray))<|oD (dT ([]:List Tm))<|oD (dTreeRow q11)<|oD (dTreeBind q10)<|oD (dTreeNode q9)<|oD (dTreeBind q4)<|oD (dE q0)<|oP 4 (apN90 h4 h5) k) ((((a150vabjLbk_150vabjLbl _).1) _ _ _ _ _ _ _ _ _ _ _ _ _ _ _ _ _ _ _ _ h).1))
 exact k150vabj (tH q150vabj 1 [] [0,1] [0,1] [0,2,31,32,33] (oD (dTreeBind l3)<|oD (dS r1)<|oD (dS ([]:List ByteArray))<|oD (dT ([]:List Tm))<|oD (dTreeRow q11)<|oD (dTreeBind q10)<|oD (dTreeNode q9)<|oD (dTreeBind q4)<|oD (dE q0)<|oP 4 (apS90 h4 h5) k) ((((a150vabjLbk_150vabjLbl _).1) _ _ _ _ _ _ _ _ _ _ _ _ _ _ _ _ _ _ _ _ h).2))
def e241vabm(qq:Nat)(q0:List Ent)(q1 q2:Int)(q3:ByteArray)(q4:List TreeBind)(q5 q6:Int)(q7:ByteArray)(q8:Int)(q9:List TreeNode)(q10:List TreeBind)(q11:List TreeRow)(q12 q13 q14 q15 p1 p2:Int):Option (Bool×Int×Int):=
 if q14==0 then
 if p1 != 0 then
 none
 else
 some ((q14 != 0),q14,q15)
 else
 none
abbrev K241vabm (q0:List Ent) (q1 q2:Int) (q3:ByteArray) (q4:List TreeBind) (q5 q6:Int) (q7:ByteArray) (q8:Int) (q9:List TreeNode) (q10:List TreeBind) (q11:List TreeRow) (q12 q13 q14 q15 p1 p2:Int) (r:Bool×Int×Int) (C:Cf):Prop:=C 241 [.cells [slv entL q0 .no,ai q1,ai q2,at' q3,slv treeBindL q4 .no,ai q5,ai q6,at' q7,ai q8,slv treeNodeC q9 .no,slv treeBindL q10 .no,slv treeRowL q11 .no,.mp 1 0,slv tmCells ([]:List Tm) .nl,slv strC ([]:List ByteArray) .nl,ai q14,ai q15],.cells [ai q12,ai q13]] [.mp 0 0,ai p1,ai p2] (ab r.1) [.cells [slv entL q0 .no,ai q1,ai q2,at' q3,slv treeBindL q4 .no,ai q5,ai q6,at' q7,ai q8,slv treeNodeC q9 .no,slv treeBindL q10 .no,slv treeRowL q11 .no,.mp 1 0,slv tmCells ([]:List Tm) .nl,slv strC ([]:List ByteArray) .nl,ai r.2.1,ai r.2.2],.cells [ai q12,ai q13]] 0
theorem q241vabm:Qf 241 Tryz.f241:=⟨Tryz.func241,by kernel_rfl⟩
theorem k241vabm{q0 q1 q2 q3 q4 q5 q6 q7 q8 q9 q10 q11 q12 q13 q14 q15 p1 p2 r}(h:K241vabm q0 q1 q2 q3 q4 q5 q6 q7 q8 q9 q10 q11 q12 q13 q14 q15 p1 p2 r Ci):K241vabm q0 q1 q2 q3 q4 q5 q6 q7 q8 q9 q10 q11 q12 q13 q14 q15 p1 p2 r Ct:=⟨h,⟨(lz rfl),tv,tv,tv⟩,(forall_cons ⟨⟨tv,dE _⟩,tv,tv,tv,⟨tv,dTreeBind _⟩,tv,tv,tv,tv,⟨tv,dTreeNode _⟩,⟨tv,dTreeBind _⟩,⟨tv,dTreeRow _⟩,(lz rfl),⟨tv,dT _⟩,⟨tv,dS _⟩,tv,tv,tv⟩ (forall_cons ⟨tv,tv,tv⟩ forall_nil)),tv,(forall_cons ⟨dE _,tv,tv,tv,dTreeBind _,tv,tv,tv,tv,dTreeNode _,dTreeBind _,dTreeRow _,(lz rfl),dT _,dS _,tv,tv,tv⟩ (forall_cons ⟨tv,tv,tv⟩ forall_nil))⟩
theorem c241vabm{qq q0 q1 q2 q3 q4 q5 q6 q7 q8 q9 q10 q11 q12 q13 q14 q15 p1 p2 r}(h:e241vabm qq q0 q1 q2 q3 q4 q5 q6 q7 q8 q9 q10 q11 q12 q13 q14 q15 p1 p2=some r):K241vabm q0 q1 q2 q3 q4 q5 q6 q7 q8 q9 q10 q11 q12 q13 q14 q15 p1 p2 r Ct:=by
 unfold e241vabm at h
 obtain⟨h1,h⟩:=spT h
 have k:=oB 1 h1 o0
 obtain⟨h2,h⟩:=splF h
 obtain rfl:=sj h
 exact k241vabm (tG q241vabm 2 [] [0,1] [] true (oD (dS ([]:List ByteArray))<|oD (dT ([]:List Tm))<|oD (dTreeRow q11)<|oD (dTreeBind q10)<|oD (dTreeNode q9)<|oD (dTreeBind q4)<|oD (dE q0)<|oB 0 h2 k))
def e205Lbn(qq:Nat)(p0:List ByteArray)(v7:Int):Option (Bool):=
 if decide (v7<(List.length p0:Int))then
 none
 else
 some true
def e205(qq:Nat)(p0:List ByteArray):Option (Bool):=
 e205Lbn qq p0 0
def g205LbnE0(j:Nat->Value)(p0:List ByteArray)(v7:Int):=sp j 19 0 [(5,slv strC p0 .no),(6,ai (List.length p0:Int)),(7,ai v7)]
def g205LbnS0(p0:List ByteArray)(v7:Int):LSt:=⟨[],0,[],0,[]⟩
abbrev K205 (p0:List ByteArray) (r:Bool) (C:Cf):Prop:=C 205 [] [slv strC p0 .no] (ab r) [] 0
theorem q205:Qf 205 Tryz.f205:=⟨Tryz.func205,by kernel_rfl⟩
theorem k205{p0 r}(h:K205 p0 r Ci):K205 p0 r Ct:=⟨h,⟨⟨tv,dS _⟩,tv⟩,forall_nil,tv,forall_nil⟩
theorem l205Lbn(qq p0 v7 r)(h:e205Lbn qq p0 v7=some r):(∀j,Dl Tryz.prog 0 (inn (inn (rgt (lft (rgt (bod Tryz.f205)))))) (g205LbnE0 j p0 v7) (g205LbnS0 p0 v7) (frameQ Tryz.prog 0 (FinQ Tryz.prog 0 Tryz.f205 (ab r) [] 0) [.blk 0,.seq (rgt (rgt (bod Tryz.f205)))])):=by
 unfold e205Lbn at h
 obtain⟨h1,h⟩:=splF h
 obtain rfl:=sj h
 exact fun j=>lF 0 [] (oB 0 h1 o0)
theorem c205{qq p0 r}(h:e205 qq p0=some r):K205 p0 r Ct:=by
 unfold e205 at h
 exact k205 (tH q205 1 [] [] [] [5,6,7] (oD (dS p0) o0) (l205Lbn qq _ _ _ h))
def e125(qq:Nat)(p0:List Ent)(p1:List ByteArray):Option (Int):=
 e205 qq p1>>=fun r1=>
 if r1 then
 e48 qq p0>>=fun r4=>
 if r4 then
 if decide ((List.length p1:Int)>24)then
 none
 else
 some 0
 else
 none
 else
 none
abbrev K125 (p0:List Ent) (p1:List ByteArray) (r:Int) (C:Cf):Prop:=C 125 [] [slv entL p0 .no,slv strC p1 .no] (ai r) [] 0
theorem q125:Qf 125 Tryz.f125:=⟨Tryz.func125,by kernel_rfl⟩
theorem k125{p0 p1 r}(h:K125 p0 p1 r Ci):K125 p0 p1 r Ct:=⟨h,⟨⟨tv,dE _⟩,⟨tv,dS _⟩,tv⟩,forall_nil,tv,forall_nil⟩
theorem c125{qq p0 p1 r}(h:e125 qq p0 p1=some r):K125 p0 p1 r Ct:=by
 unfold e125 at h
 obtain⟨r1,h2,h⟩:=obind h
 obtain⟨h3,h⟩:=spT h
 obtain⟨r4,h5,h⟩:=obind h
 have k:=oK 0 [] h3 (c205 h2) o0
 obtain⟨h6,h⟩:=spT h
 have k:=oK 1 [] h6 (c48 h5) k
 obtain⟨h7,h⟩:=splF h
 obtain rfl:=sj h
 exact k125 (tF q125 0 [] (oB 2 h7 k))
end Go.Proofs.YtcpbenbhnbjcoaaGreat
