/- Parts of the proof that the law returns true: walks of the functions, plain laws. -/
import Derived.IntWalk
import Derived.Laws.LoneSync
import Derived.ProofKit
import Derived.Test.YtohkcbcddindpaaGreatRows
import Derived.Test.YtohkcbcddindpaaGreatAbB0
set_option linter.unusedVariables false
set_option linter.unusedSimpArgs false
set_option linter.unusedSectionVars false
namespace Go.Ab
open Go Go.RowKit
mutual def AV.ren(r:Nat->Nat)(f:Nat->Option Nat):AV->AV|.val v=>.val v|.agg cs=>.agg (AV.renL r f cs)|.tup cs=>.tup (AV.renL r f cs)|.sl es n o=>.sl es n (match o with|.st k sz=>(match f k with|some k'=>.st k' sz|none=>.no)|.full=>.full|.nl=>.nl|.nn=>.nn|.fr=>.no|.z=>.z|.no=>.no)|.ip es=>.ip es|.mp i off=>.mp (r i) off|.ms i off n c sz=>.ms (r i) off n c sz|.obj i=>.obj (r i)|.clo g fs cs=>.clo g (AV.renL r f fs) (AV.renL r f cs)def AV.renL(r:Nat->Nat)(f:Nat->Option Nat):List AV->List AV|[]=>[]|a::l=>AV.ren r f a::AV.renL r f l end
mutual def AV.fine(p:Nat->Prop):AV->Prop|.val _=>True|.agg cs=>AV.fineL p cs|.tup cs=>AV.fineL p cs|.sl es _ _=>AV.DataL es|.ip es=>AV.DataL es|.mp i _=>p i|.ms i _ _ _ _=>p i|.obj i=>p i|.clo _ fs cs=>AV.fineL p fs/\AV.fineL p cs def AV.fineL(p:Nat->Prop):List AV->Prop|[]=>True|a::l=>AV.fine p a/\AV.fineL p l end
structure Ren(G G':Gh)(r:Nat->Nat)(f:Nat->Option Nat)(p:Nat->Prop):Prop where
 F:∀b,¬G.F b->¬G'.F b
 ρ:∀i b,p i->G.ρ i=some b->G'.ρ (r i)=some b
 τ:∀k k' q,f k=some k'->G.τ k=some q->G'.τ k'=some q
 L:∀b o,G.L b o->G'.L b o
 N:∀i,p i->G.N i->G'.N (r i)
mutual theorem V.ren{G G':Gh}{w:World}{r:Nat->Nat}{f:Nat->Option Nat}{p:Nat->Prop}(h:Ren G G' r f p):∀(a:AV)(u:Value),a.fine p->V G w a u->V G' w (a.ren r f) u
 |.val v,u,_,hv=>by simpa only[AV.ren,V]using hv|.agg cs,u,hi,hv=>by simp only[V,AV.fine,AV.ren]at hi hv⊢;obtain⟨vs,rfl,hl⟩:=hv;exact⟨vs,rfl,VL.ren h cs vs hi hl⟩|.tup cs,u,hi,hv=>by simp only[V,AV.fine,AV.ren]at hi hv⊢;obtain⟨vs,rfl,hl⟩:=hv;exact⟨vs,rfl,VL.ren h cs vs hi hl⟩|.sl es n o,u,hi,hv=>by
  simp only[V,AV.fine,AV.ren]at hi hv⊢;obtain⟨cap,hc,hh⟩:=hv;refine⟨cap,hc,?_⟩;rcases hh with⟨rfl,h2,h3,h4,h5⟩|⟨b,off,hu,hcells,ho⟩
  ·refine .inl ⟨rfl,h2,h3,h4,?_⟩;cases o with|no=>trivial|full=>trivial|nl=>exact h5|nn=>exact h5|fr=>trivial|z=>trivial|st k sz=>simp only;cases hk:f k with|none=>trivial|some k'=>exact h5.imp λq hq=>h.τ k k' q hk hq
  ·refine .inr ⟨b,off,hu,VC.data h.L es b off hi hcells,?_⟩;cases o with|no=>trivial|full=>exact ho|nl=>exact ho|nn=>trivial|fr=>trivial|z=>exact ho|st k sz=>simp only;cases hk:f k with|none=>trivial|some k'=>exact⟨ho.1.imp λq hq=>h.τ k k' q hk hq,ho.2.imp id λ⟨q1,q2,q3⟩=>⟨q1,h.F _ q2,h.τ k k' _ hk q3⟩⟩
 |.ip es,u,hi,hv=>by simp only[V,AV.fine,AV.ren]at hi hv⊢;obtain⟨b,off,hu,hcells⟩:=hv;exact⟨b,off,hu,VC.data h.L es b off hi hcells⟩|.mp i off,u,hi,hv=>by simp only[V,AV.fine,AV.ren]at hi hv⊢;obtain⟨b,hb,hu⟩:=hv;exact⟨b,h.ρ _ _ hi hb,hu⟩|.ms i off n c sz,u,hi,hv=>by
  simp only[V,AV.fine,AV.ren]at hi hv⊢;rcases hv with⟨b,cap,hb,hu⟩|⟨hn,hN,hu⟩;·exact .inl ⟨b,cap,h.ρ _ _ hi hb,hu⟩
  ·exact .inr ⟨hn,h.N _ hi hN,hu⟩|.obj i,u,hi,hv=>by simp only[V,AV.fine,AV.ren]at hi hv⊢;obtain⟨b,hb,hu⟩:=hv;exact⟨b,h.ρ _ _ hi hb,hu⟩|.clo g fs cs,u,hi,hv=>by simp only[V,AV.fine,AV.ren]at hi hv⊢;obtain⟨l,r',hu,h1,h2⟩:=hv;exact⟨l,r',hu,VL.ren h fs l hi.1 h1,VL.ren h cs r' hi.2 h2⟩theorem VL.ren{G G':Gh}{w:World}{r:Nat->Nat}{f:Nat->Option Nat}{p:Nat->Prop}(h:Ren G G' r f p):∀(as0:List AV)(us:List Value),AV.fineL p as0->VL G w as0 us->VL G' w (AV.renL r f as0) us|[],[],_,_=>by simp only[AV.renL,VL]|a::as0,u::us,hi,hv=>by simp only[VL,AV.fineL,AV.renL]at hi hv⊢;exact⟨V.ren h a u hi.1 hv.1,VL.ren h as0 us hi.2 hv.2⟩|[],_::_,_,hv=>by simp only[VL]at hv|_::_,[],_,hv=>by simp only[VL]at hv end
mutual def AV.arg(p:Nat->Prop):AV->Prop|.val _=>True|.agg cs=>AV.argL p cs|.tup cs=>AV.argL p cs|.sl es _ o=>o.plain/\AV.DataL es|.ip es=>AV.DataL es|.mp i _=>p i|.ms i _ _ _ _=>p i|.obj i=>p i|.clo _ fs cs=>AV.argL p fs/\AV.argL p cs def AV.argL(p:Nat->Prop):List AV->Prop|[]=>True|a::l=>AV.arg p a/\AV.argL p l end
mutual theorem V.unren{G G':Gh}{w:World}{r:Nat->Nat}{f:Nat->Option Nat}{p:Nat->Prop}(hρ:∀i,p i->G'.ρ i=G.ρ (r i)/\(G.N (r i)->G'.N i))(hL:∀b o,G.L b o->G'.L b o):∀(a:AV)(u:Value),a.arg p->V G w (a.ren r f) u->V G' w a u
 |.val v,u,_,hv=>by simpa only[AV.ren,V]using hv|.agg cs,u,hi,hv=>by simp only[V,AV.arg,AV.ren]at hi hv⊢;obtain⟨vs,rfl,hl⟩:=hv;exact⟨vs,rfl,VL.unren hρ hL cs vs hi hl⟩|.tup cs,u,hi,hv=>by simp only[V,AV.arg,AV.ren]at hi hv⊢;obtain⟨vs,rfl,hl⟩:=hv;exact⟨vs,rfl,VL.unren hρ hL cs vs hi hl⟩|.sl es n o,u,hi,hv=>by simp only[V,AV.arg,AV.ren]at hi hv⊢;obtain⟨cap,hc,hh⟩:=hv;refine⟨cap,hc,?_⟩;cases o with
  |no=>
   rcases hh with⟨q1,q2,q3,q4,_⟩|⟨b,off,hu,hcells,ho⟩;·exact .inl ⟨q1,q2,q3,q4,trivial⟩
   ·exact .inr ⟨b,off,hu,VC.data hL es b off hi.2 hcells,ho⟩|full=>
   rcases hh with⟨q1,q2,q3,q4,_⟩|⟨b,off,hu,hcells,ho⟩;·exact .inl ⟨q1,q2,q3,q4,trivial⟩
   ·exact .inr ⟨b,off,hu,VC.data hL es b off hi.2 hcells,ho⟩|nl=>
   rcases hh with⟨q1,q2,q3,q4,q5⟩|⟨b,off,hu,hcells,ho⟩;·exact .inl ⟨q1,q2,q3,q4,q5⟩
   ·exact ho.elim|nn=>
   rcases hh with⟨q1,q2,q3,q4,q5⟩|⟨b,off,hu,hcells,ho⟩;·exact .inl ⟨q1,q2,q3,q4,q5⟩
   ·exact .inr ⟨b,off,hu,VC.data hL es b off hi.2 hcells,trivial⟩|fr=>exact hi.1.elim|z=>
   rcases hh with⟨q1,q2,q3,q4,_⟩|⟨b,off,hu,hcells,ho⟩;·exact .inl ⟨q1,q2,q3,q4,trivial⟩
   ·exact .inr ⟨b,off,hu,VC.data hL es b off hi.2 hcells,ho⟩|st k sz=>exact hi.1.elim
 |.ip es,u,hi,hv=>by simp only[V,AV.arg,AV.ren]at hi hv⊢;obtain⟨b,off,hu,hcells⟩:=hv;exact⟨b,off,hu,VC.data hL es b off hi hcells⟩|.mp i off,u,hi,hv=>by simp only[V,AV.arg,AV.ren]at hi hv⊢;obtain⟨b,hb,hu⟩:=hv;exact⟨b,(hρ _ hi).1.trans hb,hu⟩|.ms i off n c sz,u,hi,hv=>by
  simp only[V,AV.arg,AV.ren]at hi hv⊢;rcases hv with⟨b,cap,hb,hu⟩|⟨hn,hN,hu⟩;·exact .inl ⟨b,cap,(hρ _ hi).1.trans hb,hu⟩
  ·exact .inr ⟨hn,(hρ _ hi).2 hN,hu⟩|.obj i,u,hi,hv=>by simp only[V,AV.arg,AV.ren]at hi hv⊢;obtain⟨b,hb,hu⟩:=hv;exact⟨b,(hρ _ hi).1.trans hb,hu⟩|.clo g fs cs,u,hi,hv=>by simp only[V,AV.arg,AV.ren]at hi hv⊢;obtain⟨l,r',hu,h1,h2⟩:=hv;exact⟨l,r',hu,VL.unren hρ hL fs l hi.1 h1,VL.unren hρ hL cs r' hi.2 h2⟩theorem VL.unren{G G':Gh}{w:World}{r:Nat->Nat}{f:Nat->Option Nat}{p:Nat->Prop}(hρ:∀i,p i->G'.ρ i=G.ρ (r i)/\(G.N (r i)->G'.N i))(hL:∀b o,G.L b o->G'.L b o):∀(as0:List AV)(us:List Value),AV.argL p as0->VL G w (AV.renL r f as0) us->VL G' w as0 us|[],[],_,_=>by simp only[VL]|a::as0,u::us,hi,hv=>by simp only[VL,AV.argL,AV.renL]at hi hv⊢;exact⟨V.unren hρ hL a u hi.1 hv.1,VL.unren hρ hL as0 us hi.2 hv.2⟩|[],_::_,_,hv=>by simp only[AV.renL,VL]at hv|_::_,[],_,hv=>by simp only[AV.renL,VL]at hv end
def yM.ren(r:Nat->Nat)(f:Nat->Option Nat):yM->yM|.cells cs=>.cells (AV.renL r f cs)|.obj o=>.obj o|.row cs=>.row cs|.dead=>.dead
theorem yM.void_ren{r:Nat->Nat}{f:Nat->Option Nat}{X:yM}(h:X.void):(X.ren r f).void:=by cases X with|cells cs=>exact h.elim|obj o=>exact h.elim|row cs=>exact h|dead=>trivial
def yM.fine(p:Nat->Prop):yM->Prop|.cells cs=>AV.fineL p cs|.obj _=>True|.row cs=>AV.DataL cs|.dead=>True
def yM.arg(p:Nat->Prop):yM->Prop|.cells cs=>AV.argL p cs|.obj _=>True|.row cs=>AV.DataL cs|.dead=>False
theorem vN.ren{G G':Gh}{w:World}{r:Nat->Nat}{f:Nat->Option Nat}{p:Nat->Prop}(h:Ren G G' r f p){X:yM}{b:Nat}(hi:X.fine p)(hX:vN G w b X):vN G' w b (X.ren r f):=by cases X with|cells cs=>obtain⟨vs,T,h1,h2⟩:=hX;exact⟨vs,T,h1,h2.imp λus=>VL.ren h _ us hi⟩|obj o=>exact hX|row cs=>obtain⟨vs,T,h1,h2⟩:=hX;exact⟨vs,T,h1,h2.imp λus=>VL.data h.L _ us hi⟩|dead=>exact hX
theorem vN.unren{G G':Gh}{w:World}{r:Nat->Nat}{f:Nat->Option Nat}{p:Nat->Prop}(hρ:∀i,p i->G'.ρ i=G.ρ (r i)/\(G.N (r i)->G'.N i))(hL:∀b o,G.L b o->G'.L b o){X:yM}{b:Nat}(hi:X.arg p)(hX:vN G w b (X.ren r f)):vN G' w b X:=by cases X with|cells cs=>obtain⟨vs,T,h1,h2⟩:=hX;exact⟨vs,T,h1,h2.imp λus=>VL.unren hρ hL _ us hi⟩|obj o=>exact hX|row cs=>obtain⟨vs,T,h1,h2⟩:=hX;exact⟨vs,T,h1,h2.imp λus=>VL.data hL _ us hi⟩|dead=>exact hi.elim
def place(l:List Nat)(k:Nat):Option Nat:=idx k l 0
theorem oJ{l:List Nat}{k t:Nat}(h:place l k=some t):l[t]?=some k:=by have:=(zEi l 0 t h).2;simpa using this
theorem zJa{k:Nat}:∀(l:List Nat)(t:Nat),k∈l->∃r,idx k l t=some r|j::l,t,h=>by simp only[idx];cases hb:Nat.beq k j with|true=>exact⟨t,rfl⟩|false=>
 rcases List.mem_cons.1 h with rfl|h;·simp at hb
 ·exact zJa l (t+1) h
theorem kZ{l:List Nat}{k:Nat}(h:k∈l):∃t,place l k=some t:=zJa l 0 h
def uV(keep:List Nat)(i:Nat):Nat:=(place keep i).getD 0
def nX(H:List (Nat×yM))(keep ks:List Nat):List Nat->Nat->List (Nat×yM)|[],_=>[]|i::l,j=>(j,((look H i).getD (.cells [])).ren (uV keep) (place ks))::nX H keep ks l (j+1)
theorem kD{H:List (Nat×yM)}{keep ks:List Nat}:∀(l:List Nat)(j t:Nat),look (nX H keep ks l j) t=if j<=t then(l[t-j]?).map λi=>((look H i).getD (.cells [])).ren (uV keep) (place ks)else none
 |[],j,t=>by simp[nX,look]|i::l,j,t=>by
  simp only[nX,look];by_cases e:t=j;·subst e;simp
  ·have:Nat.beq t j=false:=oH e;simp only[this,cond_false];rw[kD l (j+1) t];by_cases h:j+1<=t;·rw[if_pos h,if_pos (by omega),show t-j=(t-(j+1))+1 by omega];simp
   ·rw[if_neg h,if_neg (by omega)]
def range':Nat->Nat->List Nat|_,0=>[]|j,n+1=>j::range' (j+1) n
theorem mZ{k:Nat}:∀(n j:Nat),k∈range' j n↔j<=k/\k<j+n|0,j=>by simp[range']|n+1,j=>by simp only[range',List.mem_cons,mZ n (j+1)];omega
def jA(keep ks:List Nat)(s:yW):yW:=⟨nX s.H keep ks keep 0,keep.length,range' 0 ks.length,ks.length,[]⟩
def fD:List Nat->Bool|[]=>true|k::l=>!(l.any (Nat.beq k))&&fD l
theorem qV:∀l:List Nat,fD l=true->l.Nodup|[],_=>.nil|k::l,h=>by simp only[fD,Bool.and_eq_true]at h;rw[List.nodup_cons];refine⟨λhm=>?_,qV l h.2⟩;rw[vV.2 hm]at h;simp at h
def reB(na:Nat)(keep ks:List Nat)(s:yW):Bool:=fD keep&&fD ks&&(keep.all λi=>(look s.H i).isSome)&&(ks.all λk=>s.own.any (Nat.beq k))&&Nat.ble na keep.length&&(range' 0 na).all λi=>match keep[i]? with|some j=>Nat.beq j i|none=>false
def nM(keep:List Nat)(s:yW):List Nat->Prop|[]=>True|i::l=>((look s.H i).getD (.cells [])).fine (λi=>i∈keep)/\nM keep s l
theorem C8{keep:List Nat}{s:yW}:∀{l:List Nat}{i:Nat},nM keep s l->i∈l->((look s.H i).getD (.cells [])).fine (λi=>i∈keep)
 |j::l,i,h,hi=>by
  rcases List.mem_cons.1 hi with rfl|hi;·exact h.1
  ·exact C8 h.2 hi
theorem zEh{na:Nat}{keep ks:List Nat}{s:yW}(hB:reB na keep ks s=true)(hf:nM keep s keep){G0 G:Gh}{W w:World}(h0:∀i,na<=i->G0.ρ i=none/\¬G0.N i)(h0τ:∀k,G0.τ k=none)(hE:wV G0 W G w)(hR:yK G (yX (vW 0) s) w):∃G',wV G0 W G' w/\(jA keep ks s).On (vW 0) 0/\yK G' (yX (vW 0) (jA keep ks s)) w/\Ren G G' (uV keep) (place ks) (λi=>i∈keep):=by
 simp only[reB,Bool.and_eq_true,List.all_eq_true]at hB;obtain⟨⟨⟨⟨⟨b1,b2⟩,b3⟩,b4⟩,b5⟩,b6⟩:=hB;have n1:=qV _ b1;have n2:=qV _ b2;have hσ:∀i,(yX (vW 0) s).H i=look s.H i:=by intro i;show(match look s.H i with|some X=>some X|none=>none)=_;cases look s.H i<;>rfl
 have hlook:∀j,look (nX s.H keep ks keep 0) j=(keep[j]?).map λi=>((look s.H i).getD (.cells [])).ren (uV keep) (place ks):=by intro j;rw[kD];simp
 have hσ':∀j,(yX (vW 0) (jA keep ks s)).H j=(keep[j]?).map λi=>((look s.H i).getD (.cells [])).ren (uV keep) (place ks):=by intro j;show(match look (nX s.H keep ks keep 0) j with|some X=>some X|none=>none)=_;rw[hlook];cases keep[j]?<;>rfl
 have hkept:∀i,i∈keep->∃X,look s.H i=some X:=λi hi=>Option.isSome_iff_exists.1 (b3 i hi);have hown':∀k,(yX (vW 0) (jA keep ks s)).own k=true↔k<ks.length:=by intro k;show((range' 0 ks.length).any (Nat.beq k)||false)=true↔_;rw[Bool.or_false,vV,mZ];omega
 let G':Gh:={G with ρ:=λj=>(keep[j]?).bind G.ρ,τ:=λk=>(ks[k]?).bind G.τ,N:=λj=>∃i,keep[j]?=some i/\G.N i};have hNG:∀j i,keep[j]?=some i->(G'.N j↔G.N i):=by intro j i h;exact⟨λ⟨i',h1,h2⟩=>by rw[h]at h1;cases h1;exact h2,λh2=>⟨i,h,h2⟩⟩
 have hρG:∀j i,keep[j]?=some i->G'.ρ j=G.ρ i:=by intro j i h;show(keep[j]?).bind G.ρ=_;rw[h];rfl
 have hτG:∀j i,ks[j]?=some i->G'.τ j=G.τ i:=by intro j i h;show(ks[j]?).bind G.τ=_;rw[h];rfl
 have hρ':∀j b,G'.ρ j=some b->∃i,keep[j]?=some i/\G.ρ i=some b:=by intro j b h;have h':(keep[j]?).bind G.ρ=some b:=h;cases hk:keep[j]? with|none=>rw[hk]at h';cases h'|some i=>rw[hk]at h';exact⟨i,rfl,h'⟩
 have hstamp:∀k,k<ks.length->∃k1,ks[k]?=some k1/\(yX (vW 0) s).own k1=true:=by intro k hk;refine⟨ks[k],List.getElem?_eq_getElem hk,?_⟩;have:=b4 _ (List.getElem_mem hk);show(s.own.any (Nat.beq ks[k])||false)=true;rw[this];rfl
 have hren:Ren G G' (uV keep) (place ks) (λi=>i∈keep):=by
  refine⟨λ_ h=>h,λi b hi hb=>?_,λk k' q hk hq=>?_,λ_ _ h=>h,λi hi hN=>?_⟩
  ·obtain⟨t,ht⟩:=kZ hi;have:=oJ ht;simp only[uV,ht,Option.getD_some];rw[hρG _ _ this];exact hb
  ·rw[hτG _ _ (oJ hk)];exact hq
  ·obtain⟨t,ht⟩:=kZ hi;have:=oJ ht;simp only[uV,ht,Option.getD_some];exact(hNG _ _ this).2 hN
 have h6:∀i,i<na->keep[i]?=some i:=by
  intro i hi;have:=b6 i ((mZ _ _).2 ⟨Nat.zero_le _,by omega⟩);split at this
  ·rename_i j hj;have:=Nat.eq_of_beq_eq_true this;subst this;exact hj
  ·cases this
 refine⟨G',⟨λi b h=>?_,λk q h=>?_,hE.L,hE.cell,hE.w0,hE.F,hE.newL,hE.room,λi h=>?_⟩,⟨?_,?_,?_,Nat.zero_le _⟩,⟨?_,?_,?_,?_,?_,?_,?_,?_,hR.below,hR.base⟩,hren⟩
 ·have hi:i<na:=by
   rcases Nat.lt_or_ge i na with e|e;·exact e
   ·rw[(h0 i e).1]at h;cases h
  rw[hρG _ _ (h6 i hi)];exact hE.ρ _ _ h
 ·rw[h0τ]at h;cases h
 ·have hi:i<na:=by
   rcases Nat.lt_or_ge i na with e|e;·exact e
   ·exact absurd h (h0 i e).2
  exact(hNG _ _ (h6 i hi)).2 (hE.N _ h)
 ·intro j X hX;have hX':look (nX s.H keep ks keep 0) j=some X:=hX;rw[hlook]at hX';cases hk:keep[j]? with|none=>rw[hk]at hX';cases hX'|some i=>exact(List.getElem?_eq_some_iff.1 hk).1
 ·intro k hk;have:=(mZ _ _).1 hk;exact⟨Nat.zero_le _,by simpa[jA]using this.2⟩
 ·intro k h;cases h
 ·intro j;rw[hσ'];cases hk:keep[j]? with|none=>exact⟨λ_=>.inr rfl,λ_=>⟨by show(keep[j]?).bind G.ρ=none;rw[hk];rfl,λ⟨i,h1,_⟩=>by rw[hk]at h1;cases h1⟩,λ⟨i,h1,_⟩=>by rw[hk]at h1;cases h1⟩|some i=>
   obtain⟨X,hX⟩:=hkept i (List.mem_of_getElem? hk);have hd:=hR.dom i;rw[hσ,hX]at hd;rw[hρG _ _ hk,Option.map_some,hX,Option.getD_some];refine⟨λh=>?_,λh=>(by cases h),λh=>⟨(hd.2.2 ((hNG _ _ hk).1 h)).1,λY hY=>?_⟩⟩
   ·rcases hd.1 h with e|e;·exact .inl ((hNG _ _ hk).2 e)
    ·cases e
   ·cases hY;exact yM.void_ren ((hd.2.2 ((hNG _ _ hk).1 h)).2 X rfl)
 ·refine⟨keep.length,λi hi=>?_⟩;rw[hσ',List.getElem?_eq_none hi];rfl
 ·intro i j b hi hj;obtain⟨i',hi',e1⟩:=hρ' i b hi;obtain⟨j',hj',e2⟩:=hρ' j b hj;have hdead:∀{t t':Nat},keep[t]?=some t'->(yX (vW 0) s).H t'=some .dead->(yX (vW 0) (jA keep ks s)).H t=some .dead:=by intro t t' h1 h2;rw[hσ]at h2;rw[hσ',h1,Option.map_some,h2];rfl
  rcases hR.inj i' j' b e1 e2 with this|this|this
  ·left;subst this;exact(List.getElem?_inj (List.getElem?_eq_some_iff.1 hi').1 n1).1 (hi'.trans hj'.symm)
  ·exact .inr (.inl (hdead hi' this))
  ·exact .inr (.inr (hdead hj' this))
 ·intro j b X hb hX;obtain⟨i,hi,e1⟩:=hρ' j b hb;rw[hσ',hi]at hX;simp only[Option.map_some,Option.some.injEq]at hX;subst hX;obtain⟨Y,hY⟩:=hkept i (List.mem_of_getElem? hi);have hfi:=C8 hf (List.mem_of_getElem? hi);rw[hY,Option.getD_some]at hfi⊢;obtain⟨q1,q2⟩:=hR.blk i b Y e1 (by rw[hσ];exact hY);exact⟨q1,q2.ren hren hfi⟩
 ·intro b o hL;obtain⟨q1,q2⟩:=hR.live b o hL;refine⟨q1,λj hj=>?_⟩;obtain⟨i,_,e1⟩:=hρ' j b hj;exact q2 i e1
 ·intro k hk;have hk':ks.length<=k:=hk;show(ks[k]?).bind G.τ=none;rw[List.getElem?_eq_none hk'];rfl
 ·intro k hk;obtain⟨k1,hk1,ho⟩:=hstamp k ((hown' k).1 hk);obtain⟨b,f,t,q1,q2|⟨q2,q3,q4⟩⟩:=hR.own k1 ho;·exact⟨b,f,t,(hτG _ _ hk1).trans q1,.inl q2⟩
  refine⟨b,f,t,(hτG _ _ hk1).trans q1,.inr ⟨q2,λj hj=>?_,q4⟩⟩;obtain⟨i,_,e1⟩:=hρ' j b hj;exact q3 i e1
 ·intro k k' b f t f' t' hk hk' ht ht' l1 l2;obtain⟨k1,e1,o1⟩:=hstamp k ((hown' k).1 hk);obtain⟨k2,e2,o2⟩:=hstamp k' ((hown' k').1 hk');rw[hτG _ _ e1]at ht;rw[hτG _ _ e2]at ht';have:=hR.ownd k1 k2 b f t f' t' o1 o2 ht ht' l1 l2;subst this;exact(List.getElem?_inj (List.getElem?_eq_some_iff.1 e1).1 n2).1 (e1.trans e2.symm)
def yW.Ok(s:yW):Prop:=s.On (vW 0) 0
def Ev(P:Program)(c:Code)(env:List AV)(s:yW)(Q:AX->List AV->yW->Prop):Prop:=s.Ok->Cw P c ⟨env,yX (vW 0) s⟩ λx S=>∃env' s',S=⟨env',yX (vW 0) s'⟩/\s'.Ok/\Q x env' s'
theorem Ev.skip{P:Program}{env:List AV}{s:yW}{Q:AX->List AV->yW->Prop}(h:Q .normal env s):Ev P .skip env s Q:=λho=>Cw.skip ⟨_,_,rfl,ho,h⟩
theorem Ev.label{P:Program}{l:Nat}{env:List AV}{s:yW}{Q:AX->List AV->yW->Prop}(h:Q .normal env s):Ev P (.label l) env s Q:=λho=>Cw.label ⟨_,_,rfl,ho,h⟩
theorem Ev.exit{P:Program}{i:Nat}{env:List AV}{s:yW}{Q:AX->List AV->yW->Prop}(h:Q (.exit i) env s):Ev P (.exit i) env s Q:=λho=>Cw.exit ⟨_,_,rfl,ho,h⟩
theorem Ev.ret{P:Program}{env:List AV}{s:yW}{Q:AX->List AV->yW->Prop}(h:Q .ret env s):Ev P .ret env s Q:=λho=>Cw.ret ⟨_,_,rfl,ho,h⟩
def zOy(next:List AV->yW->Prop)(Q:AX->List AV->yW->Prop):AX->List AV->yW->Prop|.normal,e,s=>next e s|x,e,s=>Q x e s
def zCQ(i:Nat)(Q:AX->List AV->yW->Prop):AX->List AV->yW->Prop|.exit j,e,s=>if j=i then Q .normal e s else Q (.exit j) e s|x,e,s=>Q x e s
def tI(fn:Func):Code:=fn.body.getD .skip
def nY:Code->Code|.seq x _=>x|.cond _ x _=>x|c=>c
def uF:Code->Code|.seq _ y=>y|.cond _ _ y=>y|c=>c
def inn:Code->Code|.loop c=>c|.block _ c=>c|.scope c=>c|c=>c
def knd:Code->Nat|.seq ..=>1|.cond ..=>2|.block ..=>3|.loop ..=>4|.scope ..=>5|_=>0
variable{P:Program}{c:Code}{env:List AV}{s:yW}{Q:AX->List AV->yW->Prop}
end Go.Ab
namespace Go.Ab
open Go Go.RowKit
structure Nb where
 n:Nat
 κ:Gh->Prop
instance:Coe Nat Nb:=⟨λn=>⟨n,λ_=>True⟩⟩
instance(k:Nat):OfNat Nb k:=⟨⟨k,λ_=>True⟩⟩
structure zAY(na:Nb)(G0:Gh):Prop where
 ρ:∀i,na.n<=i->G0.ρ i=none/\¬G0.N i
 τ:∀k,G0.τ k=none
 LF:∀b o,G0.L b o->G0.F b
 κ:na.κ G0
def zUO(G0:Gh)(W:World)(Q:AX->List AV->yW->Prop):Exit->Act->World->Prop:=λe a' w'=>∃x env' s' G',e=AX.toExit x/\Q x env' s'/\wV G0 W G' w'/\s'.Ok/\mP G' ⟨env',yX (vW 0) s'⟩ a' w'
def Dv(P:Program)(na:Nb)(c:Code)(env:List AV)(s:yW)(Q:AX->List AV->yW->Prop):Prop:=∀G0 W,zAY na G0->∀G a w,wV G0 W G w->s.Ok->mP G ⟨env,yX (vW 0) s⟩ a w->c.wp P (zUO G0 W Q) a w
theorem Dv.ofEv{P:Program}{na:Nb}{c:Code}{env:List AV}{s:yW}{Q:AX->List AV->yW->Prop}(h:Ev P c env s Q):Dv P na c env s Q:=by intro G0 W _ G a w hE ho hR;refine wp_mono (h ho G a w hR) ?_;rintro e a' w'⟨x,S,G',rfl,⟨env',s',rfl,h2,h3⟩,h4,h5⟩;exact⟨x,env',s',G',rfl,h3,hE.trans h4,h2,h5⟩
theorem Dv.seq{P:Program}{na:Nb}{x y:Code}{env:List AV}{s:yW}{Q:AX->List AV->yW->Prop}(h:Dv P na x env s (zOy (λe s=>Dv P na y e s Q) Q)):Dv P na (.seq x y) env s Q:=by intro G0 W hB G a w hE ho hR;refine wp_seq (wp_mono (h G0 W hB G a w hE ho hR) ?_);rintro e a' w'⟨x,env',s',G',rfl,h2,h3,h4,h5⟩;cases x with|normal=>exact h2 G0 W hB G' a' w' h3 h4 h5|exit i=>exact⟨.exit i,env',s',G',rfl,h2,h3,h4,h5⟩|ret=>exact⟨.ret,env',s',G',rfl,h2,h3,h4,h5⟩
theorem Dv.cond{P:Program}{na:Nb}{c:Operand}{x y:Code}{env:List AV}{s:yW}{Q:AX->List AV->yW->Prop}{b:Bool}(hc:aev env c=.val (.bool b))(h:Dv P na (if b then x else y) env s Q):Dv P na (.cond c x y) env s Q:=by intro G0 W hB G a w hE ho hR;have hv:=V.aev hR.env c;simp only at hv;rw[hc]at hv;simp only[V]at hv;exact wp_cond hv (h G0 W hB G a w hE ho hR)
theorem Dv.block{P:Program}{na:Nb}{i:Nat}{c:Code}{env:List AV}{s:yW}{Q:AX->List AV->yW->Prop}(h:Dv P na c env s (zCQ i Q)):Dv P na (.block i c) env s Q:=by intro G0 W hB G a w hE ho hR;refine wp_block (wp_mono (h G0 W hB G a w hE ho hR) ?_);rintro e a' w'⟨x,env',s',G',rfl,h2,h3,h4,h5⟩;cases x with|normal=>exact⟨.normal,env',s',G',rfl,h2,h3,h4,h5⟩|ret=>exact⟨.ret,env',s',G',rfl,h2,h3,h4,h5⟩|exit j=>
 simp only[AX.toExit,Exit.inBlock,zCQ]at h2⊢;by_cases hj:j=i;·rw[if_pos hj]at h2⊢;exact⟨.normal,env',s',G',rfl,h2,h3,h4,h5⟩
 ·rw[if_neg hj]at h2⊢;exact⟨.exit j,env',s',G',rfl,h2,h3,h4,h5⟩
theorem Dv.scope{P:Program}{na:Nb}{c:Code}{env:List AV}{s:yW}{Q:AX->List AV->yW->Prop}(h:Dv P na c env s Q):Dv P na (.scope c) env s Q:=by intro G0 W hB G a w hE ho hR;refine wp_scope_straight (wp_mono (h G0 W hB G a w hE ho hR) ?_);rintro e a' w'⟨x,env',s',G',rfl,h2,h3,h4,h5⟩;cases x with|normal=>exact⟨.normal,env',s',G',rfl,h2,h3,h4,h5⟩|exit i=>exact⟨.exit i,env',s',G',rfl,h2,h3,h4,h5⟩|ret=>exact⟨.ret,env',s',G',rfl,h2,h3,h4,h5⟩
def fI(P:Program)(c:Code)(Q:Exit->Act->World->Prop)(a:Act)(w:World):Prop:=∀(b:Frame)(k:List Item)(cs:List Frame),∃e a' w',Q e a' w'/\Arrives P (lone (b.at a (.code c::.inLoop c::k)) cs w) b k cs e a' w'
theorem fI.step{P:Program}{c:Code}{Q:Exit->Act->World->Prop}{a:Act}{w:World}(h:c.wp P (Exit.then (fI P c Q) Q) a w):fI P c Q a w:=by intro b k cs;obtain⟨e,a₁,w₁,hq,harr⟩:=h b (.inLoop c::k) cs;cases e with|normal=>obtain⟨e₂,a₂,w₂,hq₂,harr₂⟩:=hq b k cs;exact⟨e₂,a₂,w₂,hq₂,.of_steps (Steps.trans harr (.one step_inLoop)) harr₂⟩|exit id=>exact⟨_,a₁,w₁,hq,.pass (x:=.inLoop c) rfl (λ_ _=>.inl (by simp)) harr⟩|goto l=>exact⟨_,a₁,w₁,hq,.pass (x:=.inLoop c) rfl (λ_ _=>.inl (by simp)) harr⟩|ret=>exact⟨_,a₁,w₁,hq,.pass (x:=.inLoop c) rfl (λ_ _=>.inl (by simp)) harr⟩|panic ch=>exact⟨_,a₁,w₁,hq,.pass (x:=.inLoop c) rfl (λ_ _=>.inl (by simp)) harr⟩|outgrown=>exact⟨_,a₁,w₁,hq,.pass (x:=.inLoop c) rfl (λ_ _=>.inl (by simp)) harr⟩
theorem fI.loop{P:Program}{c:Code}{Q:Exit->Act->World->Prop}{a:Act}{w:World}(h:fI P c Q a w):(Code.loop c).wp P Q a w:=by intro b k cs;obtain⟨e,a',w',hq,harr⟩:=h b k cs;exact⟨e,a',w',hq,.of_steps (.one step_loop) harr⟩
def Dl(P:Program)(na:Nb)(c:Code)(env:List AV)(s:yW)(Q:AX->List AV->yW->Prop):Prop:=∀G0 W,zAY na G0->∀G a w,wV G0 W G w->s.Ok->mP G ⟨env,yX (vW 0) s⟩ a w->fI P c (zUO G0 W Q) a w
theorem Dl.step{P:Program}{na:Nb}{c:Code}{env:List AV}{s:yW}{Q:AX->List AV->yW->Prop}(h:Dv P na c env s (zOy (λe s=>Dl P na c e s Q) Q)):Dl P na c env s Q:=by intro G0 W hB G a w hE ho hR;refine fI.step (wp_mono (h G0 W hB G a w hE ho hR) ?_);rintro e a' w'⟨x,env',s',G',rfl,h2,h3,h4,h5⟩;cases x with|normal=>exact h2 G0 W hB G' a' w' h3 h4 h5|exit i=>exact⟨.exit i,env',s',G',rfl,h2,h3,h4,h5⟩|ret=>exact⟨.ret,env',s',G',rfl,h2,h3,h4,h5⟩
theorem Dv.loop{P:Program}{na:Nb}{c:Code}{env:List AV}{s:yW}{Q:AX->List AV->yW->Prop}(h:Dl P na c env s Q):Dv P na (.loop c) env s Q:=λG0 W hB G a w hE ho hR=>fI.loop (h G0 W hB G a w hE ho hR)
def qF(l:List Nat)(i:Nat):Bool:=l.any (Nat.beq i)
def reEnv(keep ks live:List Nat)(j:Nat->Value):List AV->Nat->List AV|[],_=>[]|a::l,t=>(bif qF live t then a.ren (uV keep) (place ks)else .val (j t))::reEnv keep ks live j l (t+1)
def iE(keep live:List Nat):List AV->Nat->Prop|[],_=>True|a::l,t=>(bif qF live t then a.fine (λi=>i∈keep)else True)/\iE keep live l (t+1)
theorem VL.reEnv{G G':Gh}{w:World}{keep ks live:List Nat}(h:Ren G G' (uV keep) (place ks) (λi=>i∈keep))(us0:List Value):∀(env:List AV)(us:List Value)(t:Nat),iE keep live env t->VL G w env us->(∀i,us0.getD (t+i) undef=us.getD i undef)->VL G' w (reEnv keep ks live (λt=>us0.getD t undef) env t) us
 |[],[],_,_,_,_=>by simp[Ab.reEnv,VL]|a::as0,u::us,t,hf,hv,hu=>by
  simp only[VL]at hv;simp only[iE]at hf;simp only[Ab.reEnv,VL];refine⟨?_,VL.reEnv h us0 as0 us (t+1) hf.2 hv.2 (λi=>?_)⟩;·cases hm:qF live t with|true=>rw[hm]at hf;exact V.ren h a u hf.1 hv.1|false=>have:=hu 0;simp only[Nat.add_zero,List.getD_cons_zero]at this;simp only[cond_false,this,V]
  ·have:=hu (i+1);rw[show t+1+i=t+(i+1)by omega,this];simp|[],_::_,_,_,h,_=>by simp only[VL]at h|_::_,[],_,_,h,_=>by simp only[VL]at h
theorem mP.reB{na:Nb}{keep ks live:List Nat}{s:yW}{env:List AV}(hB:Ab.reB na.n keep ks s=true)(hf:nM keep s keep)(hfe:iE keep live env 0){G0 G:Gh}{W w:World}{a:Act}(h0:zAY na G0)(hE:wV G0 W G w)(hR:mP G ⟨env,yX (vW 0) s⟩ a w):∃G' j,wV G0 W G' w/\(jA keep ks s).Ok/\mP G' ⟨reEnv keep ks live j env 0,yX (vW 0) (jA keep ks s)⟩ a w:=by obtain⟨G',h1,h2,h3,h4⟩:=zEh hB hf h0.ρ h0.τ hE hR.st;exact⟨G',λt=>a.tmps.toList.getD t undef,h1,h2,h3,VL.reEnv h4 _ _ _ 0 hfe hR.env (λi=>by rw[Nat.zero_add]),hR.dfr⟩
theorem Dl.re{P:Program}{na:Nb}(keep ks live:List Nat){c:Code}{env:List AV}{s:yW}{Q:AX->List AV->yW->Prop}(hB:Ab.reB na.n keep ks s=true)(hf:nM keep s keep)(hfe:iE keep live env 0)(h:∀j,Dl P na c (reEnv keep ks live j env 0) (jA keep ks s) Q):Dl P na c env s Q:=by intro G0 W h0 G a w hE ho hR;obtain⟨G',j,h1,h2,h3⟩:=hR.reB hB hf hfe h0 hE;exact h j G0 W h0 G' a w h1 h2 h3
def iF:List yM->Nat->List (Nat×yM)|[],_=>[]|X::l,j=>(j,X)::iF l (j+1)
theorem iG:∀(l:List yM)(j t:Nat),look (iF l j) t=if j<=t then l[t-j]? else none
 |[],j,t=>by simp[iF,look]|X::l,j,t=>by
  simp only[iF,look];by_cases e:t=j;·subst e;simp
  ·have:Nat.beq t j=false:=oH e;simp only[this,cond_false];rw[iG l (j+1) t];by_cases h:j+1<=t;·rw[if_pos h,if_pos (by omega),show t-j=(t-(j+1))+1 by omega];simp
   ·rw[if_neg h,if_neg (by omega)]
def aM(H0:List yM):yW:=⟨iF H0 0,H0.length,[],0,[]⟩
theorem zOx(H0:List yM)(i:Nat):(yX (vW 0) (aM H0)).H i=H0[i]?:=by show(match look (iF H0 0) i with|some X=>some X|none=>none)=_;rw[iG];simp only[Nat.zero_le,if_true,Nat.sub_zero];cases H0[i]?<;>rfl
theorem xV(s:yW)(i:Nat):(yX (vW 0) s).H i=look s.H i:=by show(match look s.H i with|some X=>some X|none=>none)=_;cases look s.H i<;>rfl
theorem sT(s:yW)(k:Nat):(yX (vW 0) s).own k=s.own.any (Nat.beq k):=by show(s.own.any (Nat.beq k)||false)=_;simp
def uG(P:Program)(f:FuncId)(H0:List yM)(args:List AV)(res:AV)(H1:List yM)(nst:Nat):Prop:=∀G0 W cargs,zAY H0.length G0->yK G0 (yX (vW 0) (aM H0)) W->VL G0 W args cargs.toList->Calls P f cargs W λe W'=>∃u G' s',e=.returned u/\wV G0 W G' W'/\yK G' (yX (vW 0) s') W'/\V G' W' res u/\(∀i X,H1[i]?=some X->look s'.H i=some X)/\∀k,k<nst->s'.own.any (Nat.beq k)=true
def rM(ι:List Nat)(nx i:Nat):Nat:=match ι[i]? with|some j=>j|none=>nx+(i-ι.length)
def cst(ns nst k:Nat):Option Nat:=bif Nat.blt k nst then some (ns+k)else none
def kO(_:Nat):Option Nat:=none
def J7(r:Nat->Nat)(f:Nat->Option Nat):List Nat->List yM->List yM->List (Nat×yM×yM)|i::ι,X::H0,Y::H1=>(i,X.ren r kO,Y.ren r f)::J7 r f ι H0 H1|_,_,_=>[]
def als(r:Nat->Nat)(f:Nat->Option Nat):Nat->List yM->List (Nat×yM)|nx,Y::H1=>(nx,Y.ren r f)::als r f (nx+1) H1|_,[]=>[]
def tB(ι:List Nat)(nx ns:Nat)(H0 H1:List yM)(nst:Nat)(res:AV):LA:=
  { ev:=λ_=>.val undef
    wr:=J7 (rM ι nx) (cst ns nst) ι H0 H1
    al:=als (rM ι nx) (cst ns nst) nx (H1.drop ι.length)
    ns:=ns
    new:=nst
    v:=res.ren (rM ι nx) (cst ns nst)}
theorem zJA{r:Nat->Nat}{f:Nat->Option Nat}:∀(ι:List Nat)(H0 H1:List yM),ι.length=H0.length->H0.length<=H1.length->∀(i:Nat)(j:Nat)(X Y:yM),ι[i]?=some j->H0[i]?=some X->H1[i]?=some Y->(j,X.ren r kO,Y.ren r f)∈J7 r f ι H0 H1|[],_,_,_,_,i,j,X,Y,h,_,_=>by simp at h|_::_,[],_,h,_,_,_,_,_,_,_,_=>by simp at h|_::_,_::_,[],_,h,_,_,_,_,_,_,_=>by simp at h|a::ι,b::H0,c::H1,h1,h2,i,j,X,Y,h3,h4,h5=>by simp only[J7,List.mem_cons];cases i with|zero=>simp at h3 h4 h5;subst h3 h4 h5;exact .inl rfl|succ i=>simp at h3 h4 h5;exact .inr (zJA ι H0 H1 (by simpa using h1) (by simpa using h2) i j X Y h3 h4 h5)
theorem zOw{r:Nat->Nat}{f:Nat->Option Nat}:∀(ι:List Nat)(H0 H1:List yM)(j:Nat)(X Y:yM),(j,X,Y)∈J7 r f ι H0 H1->j∈ι
 |[],_,_,_,_,_,h=>by simp[J7]at h|_::_,[],_,_,_,_,h=>by simp[J7]at h|_::_,_::_,[],_,_,_,h=>by simp[J7]at h|a::ι,b::H0,c::H1,j,X,Y,h=>by
  simp only[J7,List.mem_cons,Prod.mk.injEq]at h;rcases h with⟨rfl,_⟩|h;·simp
  ·exact List.mem_cons_of_mem _ (zOw ι H0 H1 j X Y h)
theorem zEg{r:Nat->Nat}{f:Nat->Option Nat}:∀(ι:List Nat)(H0 H1:List yM),ι.length=H0.length->H0.length<=H1.length->ι.Nodup->∀(i j:Nat)(Y:yM),ι[i]?=some j->H1[i]?=some Y->look ((J7 r f ι H0 H1).map λp=>(p.1,p.2.2)) j=some (Y.ren r f)|[],_,_,_,_,_,i,j,Y,h,_=>by simp at h|_::_,[],_,h,_,_,_,_,_,_,_=>by simp at h|_::_,_::_,[],_,h,_,_,_,_,_,_=>by simp at h|a::ι,b::H0,c::H1,h1,h2,hn,i,j,Y,h3,h5=>by rw[List.nodup_cons]at hn;simp only[J7,List.map_cons,look];cases i with|zero=>simp at h3 h5;subst h3 h5;simp|succ i=>
 simp at h3 h5;have hne:j≠a:=by rintro rfl;exact hn.1 (List.mem_of_getElem? h3)
 rw[oH hne];exact zEg ι H0 H1 (by simpa using h1) (by simpa using h2) hn.2 i j Y h3 h5
theorem zAZ{r:Nat->Nat}{f:Nat->Option Nat}(ι:List Nat)(H0 H1:List yM){j:Nat}(hj:j∉ι):look ((J7 r f ι H0 H1).map λp=>(p.1,p.2.2)) j=none:=by refine dJ _ _ λX hX=>?_;obtain⟨q,hq,he⟩:=List.mem_map.1 hX;simp only[Prod.mk.injEq]at he;exact hj (he.1▸zOw ι H0 H1 q.1 q.2.1 q.2.2 hq)
theorem Z4{r:Nat->Nat}{f:Nat->Option Nat}:∀(H1:List yM)(nx j:Nat),look (als r f nx H1) j=if nx<=j then(H1[j-nx]?).map λY=>Y.ren r f else none
 |[],nx,j=>by simp[als,look]|Y::H1,nx,j=>by
  simp only[als,look];by_cases e:j=nx;·subst e;simp
  ·rw[oH e];simp only[cond_false];rw[Z4 H1 (nx+1) j];by_cases h:nx+1<=j;·rw[if_pos h,if_pos (by omega),show j-nx=(j-(nx+1))+1 by omega];simp
   ·rw[if_neg h,if_neg (by omega)]
theorem zJB{r:Nat->Nat}{f:Nat->Option Nat}:∀(H1:List yM)(nx j:Nat)(X:yM),(j,X)∈als r f nx H1->nx<=j/\j<nx+H1.length
 |[],_,_,_,h=>by simp[als]at h|Y::H1,nx,j,X,h=>by
  simp only[als,List.mem_cons,Prod.mk.injEq]at h;rcases h with⟨rfl,_⟩|h;·simp
  ·have:=zJB H1 (nx+1) j X h;simp only[List.length_cons];omega
theorem zJC{r:Nat->Nat}{f:Nat->Option Nat}:∀(H1:List yM)(nx j:Nat),nx<=j->j<nx+H1.length->∃X,(j,X)∈als r f nx H1
 |[],nx,j,h1,h2=>by simp at h2;omega|Y::H1,nx,j,h1,h2=>by
  simp only[List.length_cons]at h2;by_cases e:j=nx;·subst e;exact⟨_,List.mem_cons_self ..⟩
  ·obtain⟨X,hX⟩:=zJC H1 (nx+1) j (by omega) (by omega);exact⟨X,List.mem_cons_of_mem _ hX⟩
theorem yM.ren_void{r:Nat->Nat}{f:Nat->Option Nat}{X:yM}(h:(X.ren r f).void):X.void:=by cases X with|cells cs=>exact h.elim|obj o=>exact h.elim|row cs=>exact h|dead=>trivial
theorem uG.uni{P:Program}{f:FuncId}{H0:List yM}{args:List AV}{res:AV}{H1:List yM}{nst:Nat}(h:uG P f H0 args res H1 nst)(hargs:AV.argL (λi=>i<H0.length) args)(hH0:∀X∈H0,X.arg (λi=>i<H0.length))(hres:res.fine (λi=>i<H1.length))(hH1:∀X∈H1,X.fine (λi=>i<H1.length))(ι:List Nat)(hι:ι.length=H0.length)(hle:H0.length<=H1.length)(hn:ι.Nodup)(nx ns:Nat):zLb P f (AV.renL (rM ι nx) kO args) (tB ι nx ns H0 H1 nst res):=by
 intro G σ w cargs hR hv hc;have hin:∀i,i<H0.length->∃j,ι[i]?=some j/\rM ι nx i=j:=by
  intro i hi;have hi':i<ι.length:=by omega
  exact⟨ι[i],List.getElem?_eq_getElem hi',by simp[rM,List.getElem?_eq_getElem hi']⟩
 have hblk:∀(i:Nat)(X:yM)(j:Nat),H0[i]?=some X->ι[i]?=some j->σ.H j=some (X.ren (rM ι nx) kO):=by
  intro i X j hX hj;have hlt:i<H1.length:=by have:=(List.getElem?_eq_some_iff.1 hX).1;omega
  exact hc.wr j _ _ (zJA ι H0 H1 hι hle i j X _ hj hX (List.getElem?_eq_getElem hlt))
 have hnew:∀j,nx<=j->j<nx+(H1.length-H0.length)->σ.H j=none:=by intro j h1 h2;obtain⟨X,hX⟩:=zJC (r:=rM ι nx) (f:=cst ns nst) (H1.drop ι.length) nx j h1 (by rw[List.length_drop,hι];exact h2);exact hc.al j X hX
 have notdead:∀{i j:Nat},ι[i]?=some j->σ.H j≠some .dead:=by
  intro i j hj hd;have hi:i<H0.length:=by have:=(List.getElem?_eq_some_iff.1 hj).1;omega
  have h1:=hblk i _ j (List.getElem?_eq_getElem hi) hj;rw[hd]at h1;have h2:=hH0 _ (List.getElem_mem hi);cases hX:H0[i]with|dead=>rw[hX]at h2;exact h2|cells cs=>rw[hX]at h1;cases h1|obj o=>rw[hX]at h1;cases h1|row cs=>rw[hX]at h1;cases h1
 have alive:∀{i i' j j' b:Nat},ι[i]?=some j->ι[i']?=some j'->G.ρ j=some b->G.ρ j'=some b->j=j':=by
  intro i i' j j' b hj hj' e e';rcases hR.inj j j' b e e' with q|q|q;·exact q
  ·exact(notdead hj q).elim
  ·exact(notdead hj' q).elim
 let F0:Nat->Prop:=λb=>b<w.heap.size/\∀i∈ι,G.ρ i≠some b;let G0:Gh:=⟨λi=>(ι[i]?).bind G.ρ,λ_=>none,G.L,w,F0,λi=>∃j:Nat,ι[i]?=some j/\G.N j⟩;have hN0:∀(i j:Nat),ι[i]?=some j->(G0.N i↔G.N j):=λi j e=>⟨λ⟨j',e',h⟩=>by rw[e]at e';cases e';exact h,λh=>⟨j,e,h⟩⟩;have arg0:∀(i j:Nat),ι[i]?=some j->(∃b,G.ρ j=some b)\/(G.ρ j=none/\G.N j):=by
  intro i j hj;have hi:i<H0.length:=by have:=(List.getElem?_eq_some_iff.1 hj).1;omega
  have hX:=hblk i _ j (List.getElem?_eq_getElem hi) hj;cases hb:G.ρ j with|some b=>exact .inl ⟨b,rfl⟩|none=>
   rcases(hR.dom j).1 hb with e|e;·exact .inr ⟨rfl,e⟩
   ·rw[hX]at e;cases e
 have hρ0:∀i j,ι[i]?=some j->G0.ρ i=G.ρ j:=by intro i j e;show(ι[i]?).bind G.ρ=_;rw[e];rfl
 have hρ0':∀i b,G0.ρ i=some b->∃j,ι[i]?=some j/\G.ρ j=some b:=by intro i b e;have e':(ι[i]?).bind G.ρ=some b:=e;cases hj:ι[i]? with|none=>rw[hj]at e';cases e'|some j=>rw[hj]at e';exact⟨j,rfl,e'⟩
 have hB:zAY H0.length G0:=⟨λi hi=>by replace hi:H0.length<=i:=hi;exact⟨by show(ι[i]?).bind G.ρ=none;rw[List.getElem?_eq_none (by omega)];rfl,λ⟨j,e,_⟩=>by rw[List.getElem?_eq_none (by omega)]at e;cases e⟩,λ_=>rfl,λb o e=>⟨hR.L_lt e,λi _=>(hR.live b o e).2 i⟩,trivial⟩;have hR0:yK G0 (yX (vW 0) (aM H0)) w:=by
  refine⟨λi=>?_,⟨H0.length,λi hi=>?_⟩,λi i' b e1 e2=>?_,λi b X e1 e2=>?_,λb o e=>?_,λ_ _=>rfl,λk hk=>?_,λk k' b f t f' t' hk=>?_,vQ.refl _ _,λk hk=>hk.1⟩
  ·rw[zOx];cases hX:H0[i]? with|none=>have q:=hB.ρ i (List.getElem?_eq_none_iff.1 hX);exact⟨λ_=>.inr rfl,λ_=>q,λe=>absurd e q.2⟩|some X=>obtain⟨j,hj,_⟩:=hin i (List.getElem?_eq_some_iff.1 hX).1;have q:=hR.dom j;rw[hblk i X j hX hj]at q;rw[hρ0 i j hj,propext (hN0 i j hj)];exact⟨λe=>(q.1 e).imp id λe=>(by cases e),λe=>(by cases e),λe=>⟨(q.2.2 e).1,λY hY=>by cases hY;exact yM.ren_void ((q.2.2 e).2 _ rfl)⟩⟩
  ·rw[zOx];exact List.getElem?_eq_none hi
  ·obtain⟨j,hj,e3⟩:=hρ0' i b e1;obtain⟨j',hj',e4⟩:=hρ0' i' b e2;left;have:=alive hj hj' e3 e4;subst this;exact(List.getElem?_inj (List.getElem?_eq_some_iff.1 hj).1 hn).1 (hj.trans hj'.symm)
  ·rw[zOx]at e2;obtain⟨j,hj,e3⟩:=hρ0' i b e1;obtain⟨q1,q2⟩:=hR.blk j b _ e3 (hblk i X j e2 hj);refine⟨λhF=>hF.2 j (List.mem_of_getElem? hj) e3,vN.unren (G:=G) (G':=G0) (r:=rM ι nx) (f:=kO) (λi hi=>?_) (λ_ _ e=>e) (hH0 X (List.mem_of_getElem? e2)) q2⟩;obtain⟨j',hj',e5⟩:=hin i hi;exact⟨by rw[hρ0 i j' hj',e5],λq=>(hN0 i j' hj').2 (by rw[<-e5];exact q)⟩
  ·obtain⟨q1,q2⟩:=hR.live b o e;refine⟨q1,λi hi=>?_⟩;obtain⟨j,_,e3⟩:=hρ0' i b hi;exact q2 j e3
  ·simp[sT,aM]at hk
  ·simp[sT,aM]at hk
 have hv0:VL G0 w args cargs.toList:=VL.unren (G:=G) (G':=G0) (r:=rM ι nx) (f:=kO) (λi hi=>by obtain⟨j,hj,e⟩:=hin i hi;exact⟨by rw[hρ0 i j hj,e],λq=>(hN0 i j hj).2 (by rw[<-e];exact q)⟩) (λ_ _ e=>e) _ _ hargs hv;refine(h G0 w cargs hB hR0 hv0).mono λe w' he=>?_;obtain⟨u,G₁,s₁,rfl,hE,hR₁,hu,hH1',hst⟩:=he;have hkeep:vQ F0 w w':=by have:=hR₁.below;rw[hE.w0,hE.F]at this;exact this
 let m:=H1.length-H0.length;let G':Gh:=⟨λi=>if nx<=i/\i<nx+m then G₁.ρ (H0.length+(i-nx))else G.ρ i,λk=>if k<σ.ns then G.τ k else if k<σ.ns+nst then G₁.τ (k-σ.ns)else none,G₁.L,G.w0,G.F,λi=>if nx<=i/\i<nx+m then G₁.N (H0.length+(i-nx))else G.N i⟩;have ρnew:∀i,nx<=i->i<nx+m->G'.ρ i=G₁.ρ (H0.length+(i-nx)):=λi a b=>if_pos ⟨a,b⟩;have ρold:∀i,σ.H i≠none->G'.ρ i=G.ρ i:=by intro i hi;refine if_neg λe=>hi (hnew i e.1 e.2)
 have ρarg:∀i j,ι[i]?=some j->G₁.ρ i=G.ρ j/\G'.ρ j=G.ρ j:=by
  intro i j hj;have hi:i<H0.length:=by have:=(List.getElem?_eq_some_iff.1 hj).1;omega
  have hX:=hblk i _ j (List.getElem?_eq_getElem hi) hj;refine⟨?_,ρold j (by rw[hX];simp)⟩;rcases arg0 i j hj with⟨b,hb⟩|⟨e,hN⟩;·rw[hb];exact hE.ρ i b (by rw[hρ0 i j hj];exact hb)
  ·rw[e];exact((hR₁.dom i).2.2 (hE.N i ((hN0 i j hj).2 hN))).1
 have Nnew:∀i,nx<=i->i<nx+m->(G'.N i↔G₁.N (H0.length+(i-nx))):=λi a b=>by show(if _ then _ else _)↔_;rw[if_pos ⟨a,b⟩]
 have Nold:∀i,¬(nx<=i/\i<nx+m)->(G'.N i↔G.N i):=λi a=>by show(if _ then _ else _)↔_;rw[if_neg a]
 have Narg:∀(i j:Nat),ι[i]?=some j->(G₁.N i↔G.N j)/\(G'.N j↔G.N j):=by
  intro i j hj;have hi:i<H0.length:=by have:=(List.getElem?_eq_some_iff.1 hj).1;omega
  have hX:=hblk i _ j (List.getElem?_eq_getElem hi) hj;refine⟨⟨λhN=>?_,λhN=>hE.N i ((hN0 i j hj).2 hN)⟩,Nold j λe=>by rw[hnew j e.1 e.2]at hX;cases hX⟩;rcases arg0 i j hj with⟨b,hb⟩|⟨_,h⟩
  ·have:=((hR₁.dom i).2.2 hN).1;rw[(ρarg i j hj).1,hb]at this;cases this
  ·exact h
 have pre:∀i b,G'.ρ i=some b->(∃i₁,G₁.ρ i₁=some b/\rM ι nx i₁=i/\i₁<H1.length/\(ι[i₁]?=some i\/(nx<=i/\i<nx+m/\i₁=H0.length+(i-nx))))\/(G.ρ i=some b/\(F0 b\/σ.H i=some .dead)/\i∉ι/\¬(nx<=i/\i<nx+m)):=by
  intro i b e;by_cases hi:nx<=i/\i<nx+m
  ·rw[ρnew i hi.1 hi.2]at e;refine .inl ⟨H0.length+(i-nx),e,?_,by omega,.inr ⟨hi.1,hi.2,rfl⟩⟩;unfold rM;rw[List.getElem?_eq_none (by omega)];simp only;omega
  ·have e':G.ρ i=some b:=by have:G'.ρ i=G.ρ i:=if_neg hi;rw[<-this];exact e
   by_cases hm:i∈ι
   ·obtain⟨t,ht,rfl⟩:=List.getElem_of_mem hm;have hj:ι[t]?=some ι[t]:=List.getElem?_eq_getElem ht;refine .inl ⟨t,by rw[(ρarg t _ hj).1];exact e',by simp[rM,hj],by omega,.inl hj⟩
   ·refine .inr ⟨e',?_,hm,hi⟩;by_cases hd:σ.H i=some .dead;·exact .inr hd
    ·refine .inl ⟨hR.ρ_lt e',λj hj e2=>?_⟩;obtain⟨t,ht,rfl⟩:=List.getElem_of_mem hj;rcases hR.inj _ i b e2 e' with q|q|q;·exact hm (q▸hj)
     ·exact notdead (List.getElem?_eq_getElem ht) q
     ·exact hd q
 have notF0:∀{b:Nat},¬F0 b->b<w.heap.size->∃t:Nat,G₁.ρ t=some b/\G0.ρ t=some b:=by
  intro b h1 h2;obtain⟨j,hj,e⟩:∃j,j∈ι/\G.ρ j=some b:=by refine Classical.byContradiction λhn'=>h1 ⟨h2,λj hj e=>hn' ⟨j,hj,e⟩⟩
  obtain⟨t,ht,rfl⟩:=List.getElem_of_mem hj;exact⟨t,by rw[(ρarg t _ (List.getElem?_eq_getElem ht)).1];exact e,by rw[hρ0 t _ (List.getElem?_eq_getElem ht)];exact e⟩
 have hF:∀b,¬F0 b->¬G.F b:=by intro b hb hG;apply hb;refine⟨hR.base b hG,λi _ e=>?_⟩;obtain⟨X,hX⟩:=hR.has e;exact(hR.blk i b X e hX).1 hG
 have hLsub:∀b o,G.L b o->G₁.L b o:=hE.L;have hnewL:∀b o,G₁.L b o->G.L b o\/¬F0 b:=hE.newL;have hcell:∀b o,G.L b o->w'.cell? ⟨b,o,none⟩=w.cell? ⟨b,o,none⟩:=hE.cell;have hExt:wV G w G' w':=by
  refine⟨λi b e=>?_,λk q e=>?_,hLsub,hcell,rfl,rfl,λb o e=>(hnewL b o e).imp id (hF b),λi b k e r=>?_,λi e=>(Nold i λq=>((hR.dom i).2.1 (hnew i q.1 q.2)).2 e).2 e⟩;rotate_left 2
  ·by_cases hb:F0 b;·exact r.same (hkeep.block b hb)
   ·obtain⟨t,_,h2⟩:=notF0 hb r.lt;exact hE.room t b k h2 r
  ·obtain⟨X,hX⟩:=hR.has e;rw[ρold i (by rw[hX];simp)];exact e
  ·have:k<σ.ns:=by
    rcases Nat.lt_or_ge k σ.ns with e1|e1;·exact e1
    ·rw[hR.τns k e1]at e;cases e
   show(if k<σ.ns then _ else _)=_;rw[if_pos this];exact e
 have hns:nst≠0->ns=σ.ns:=λe=>hc.ns (.inr (.inl e));have hren:Ren G₁ G' (rM ι nx) (cst ns nst) (λi=>i<H1.length):=by
  refine⟨λb hb=>hF b (by rw[hE.F]at hb;exact hb),λi b hi e=>?_,λk k' q hk hq=>?_,λ_ _ e=>e,λi hi e=>?_⟩;rotate_left 2
  ·by_cases hi':i<H0.length;·obtain⟨j,hj,e1⟩:=hin i hi';rw[e1];exact(Narg i j hj).2.2 ((Narg i j hj).1.1 e)
   ·have e1:rM ι nx i=nx+(i-ι.length):=by unfold rM;rw[List.getElem?_eq_none (by omega)]
    rw[e1];refine(Nnew _ (by omega) (by omega)).2 ?_;rw[show H0.length+(nx+(i-ι.length)-nx)=i by omega];exact e
  ·by_cases hi':i<H0.length;·obtain⟨j,hj,e1⟩:=hin i hi';rw[e1,(ρarg i j hj).2,<-(ρarg i j hj).1];exact e
   ·have e1:rM ι nx i=nx+(i-ι.length):=by unfold rM;rw[List.getElem?_eq_none (by omega)]
    rw[e1,ρnew _ (by omega) (by omega)];rw[show H0.length+(nx+(i-ι.length)-nx)=i by omega];exact e
  ·unfold cst at hk;cases hb:Nat.blt k nst with|false=>rw[hb]at hk;cases hk|true=>
    rw[hb]at hk;simp only[cond_true,Option.some.injEq]at hk;subst hk;have hlt:k<nst:=by simpa using hb
    have:=hns (by omega);subst this;show(if σ.ns+k<σ.ns then _ else if σ.ns+k<σ.ns+nst then G₁.τ (σ.ns+k-σ.ns)else none)=_;rw[if_neg (by omega),if_pos (by omega),show σ.ns+k-σ.ns=k by omega];exact hq
 have happ:∀i,((tB ι nx ns H0 H1 nst res).app σ).H i=match look (als (rM ι nx) (cst ns nst) nx (H1.drop ι.length)) i with|some X=>some X|none=>(match look ((J7 (rM ι nx) (cst ns nst) ι H0 H1).map λp=>(p.1,p.2.2)) i with|some X=>some X|none=>σ.H i):=by intro i;show gR (gR σ.H ((J7 (rM ι nx) (cst ns nst) ι H0 H1).map λp=>(p.1,p.2.2))) (als (rM ι nx) (cst ns nst) nx (H1.drop ι.length)) i=_;rw[C6,C6]<;>rfl
 have happNew:∀i,nx<=i->i<nx+m->∃Y:yM,H1[H0.length+(i-nx)]?=some Y/\((tB ι nx ns H0 H1 nst res).app σ).H i=some (Y.ren (rM ι nx) (cst ns nst)):=by
  intro i h1 h2;have hlt:H0.length+(i-nx)<H1.length:=by omega
  refine⟨H1[H0.length+(i-nx)],List.getElem?_eq_getElem hlt,?_⟩;rw[happ,Z4,if_pos h1,List.getElem?_drop,hι,List.getElem?_eq_getElem hlt];rfl
 have hnotnew:∀i,¬(nx<=i/\i<nx+m)->look (als (rM ι nx) (cst ns nst) nx (H1.drop ι.length)) i=none:=by
  intro i hi;rw[Z4];split;·rw[List.getElem?_eq_none (by rw[List.length_drop];omega)];rfl
  ·rfl
 have happArg:∀(t j:Nat),ι[t]?=some j->∃Y:yM,H1[t]?=some Y/\((tB ι nx ns H0 H1 nst res).app σ).H j=some (Y.ren (rM ι nx) (cst ns nst)):=by
  intro t j hj;have ht:t<H0.length:=by have:=(List.getElem?_eq_some_iff.1 hj).1;omega
  have hlt:t<H1.length:=by omega
  refine⟨H1[t],List.getElem?_eq_getElem hlt,?_⟩;have hX:=hblk t _ j (List.getElem?_eq_getElem ht) hj;rw[happ,hnotnew j (λe=>by rw[hnew j e.1 e.2]at hX;cases hX),zEg ι H0 H1 hι hle hn t j _ hj (List.getElem?_eq_getElem hlt)]
 have happOld:∀i,i∉ι->¬(nx<=i/\i<nx+m)->((tB ι nx ns H0 H1 nst res).app σ).H i=σ.H i:=by intro i h1 h2;rw[happ,hnotnew i h2,zAZ ι H0 H1 h1]
 have hown:∀k,((tB ι nx ns H0 H1 nst res).app σ).own k=true->(k<σ.ns/\σ.own k=true/\G'.τ k=G.τ k)\/(σ.ns<=k/\k<σ.ns+nst/\G'.τ k=G₁.τ (k-σ.ns)/\(yX (vW 0) s₁).own (k-σ.ns)=true):=by
  intro k hk;have hk':(if σ.ns<=k/\k<σ.ns+nst then true else if k∈([]:List Nat)then false else σ.own k)=true:=hk;by_cases h1:σ.ns<=k/\k<σ.ns+nst
  ·refine .inr ⟨h1.1,h1.2,?_,?_⟩
   ·show(if k<σ.ns then _ else _)=_;rw[if_neg (by omega),if_pos h1.2]
   ·rw[sT];exact hst _ (by omega)
  ·rw[if_neg h1,if_neg (by simp)]at hk';have:=hR.own_lt hk';refine .inl ⟨this,hk',?_⟩;show(if k<σ.ns then _ else _)=_;rw[if_pos this]
 have hpreN:∀b,(∀i,G₁.ρ i≠some b)->¬F0 b->∀i,G'.ρ i≠some b:=by
  intro b h1 h2 i e;rcases pre i b e with⟨i₁,e1,_⟩|⟨e0,e2,_⟩;·exact h1 i₁ e1
  ·obtain⟨t,q1,_⟩:=notF0 h2 (hR.ρ_lt e0);exact h1 t q1
 refine⟨u,G',rfl,hExt,⟨?_,?_,?_,?_,?_,?_,?_,?_,?_,?_⟩,V.ren hren res u hres hu⟩
 ·intro i;by_cases h1:nx<=i/\i<nx+m
  ·obtain⟨Y,hY,hY'⟩:=happNew i h1.1 h1.2;have q:=hR₁.dom (H0.length+(i-nx));rw[xV,hH1' _ _ hY]at q;rw[hY',ρnew i h1.1 h1.2,propext (Nnew i h1.1 h1.2)];exact q.map λX=>yM.void_ren
  ·by_cases h2:i∈ι
   ·obtain⟨t,ht,rfl⟩:=List.getElem_of_mem h2;have hj:ι[t]?=some ι[t]:=List.getElem?_eq_getElem ht;obtain⟨Y,hY,hY'⟩:=happArg t _ hj;have q:=hR₁.dom t;rw[xV,hH1' _ _ hY]at q;rw[hY',(ρarg t _ hj).2,<-(ρarg t _ hj).1,propext (Narg t _ hj).2,<-propext (Narg t _ hj).1];exact q.map λX=>yM.void_ren
   ·rw[happOld i h2 h1,propext (Nold i h1)];rw[show G'.ρ i=G.ρ i from if_neg h1];exact hR.dom i
 ·obtain⟨N,hN⟩:=hR.fin;refine⟨N+nx+m+ι.foldr (λi s=>i+1+s) 0,λi hi=>?_⟩;have big:∀(l:List Nat)i,i∈l->i<l.foldr (λi s=>i+1+s) 0:=by intro l;induction l with|nil=>intro i hi;cases hi|cons x l ih=>
    intro i hi;simp only[List.foldr_cons];rcases List.mem_cons.1 hi with rfl|hi;·omega
    ·have:=ih i hi;omega
  rw[happOld i (λhm=>by have:=big _ i hm;omega) (by omega)];exact hN i (by omega)
 ·intro i i' b e1 e2;have hdead:∀{i a:Nat},(ι[a]?=some i\/(nx<=i/\i<nx+m/\a=H0.length+(i-nx)))->(yX (vW 0) s₁).H a=some .dead->((tB ι nx ns H0 H1 nst res).app σ).H i=some .dead:=by
   intro i a hc hd;have:∃Y:yM,H1[a]?=some Y/\((tB ι nx ns H0 H1 nst res).app σ).H i=some (Y.ren (rM ι nx) (cst ns nst)):=by
    rcases hc with hc|⟨h1,h2,rfl⟩;·exact happArg a i hc
    ·exact happNew i h1 h2
   obtain⟨Y,h1,h2⟩:=this;rw[xV,hH1' _ _ h1]at hd;cases hd;rw[h2];rfl
  rcases pre i b e1 with⟨a,q1,q2,q3,q4⟩|⟨q1,q2,q3,q4⟩<;>rcases pre i' b e2 with⟨a',p1,p2,p3,p4⟩|⟨p1,p2,p3,p4⟩
  ·rcases hR₁.inj a a' b q1 p1 with this|this|this;·left;subst this;rw[<-q2,<-p2]
   ·exact .inr (.inl (hdead q4 this))
   ·exact .inr (.inr (hdead p4 this))
  ·rcases p2 with p2|p2
   ·exfalso;obtain⟨X,hX⟩:=hR₁.has q1;have:=(hR₁.blk a b X q1 hX).1;rw[hE.F]at this;exact this p2
   ·exact .inr (.inr (by rw[happOld i' p3 p4];exact p2))
  ·rcases q2 with q2|q2;·exfalso;obtain⟨X,hX⟩:=hR₁.has p1;have:=(hR₁.blk a' b X p1 hX).1;rw[hE.F]at this;exact this q2
   ·exact .inr (.inl (by rw[happOld i q3 q4];exact q2))
  ·rw[happOld i q3 q4,happOld i' p3 p4];exact hR.inj i i' b q1 p1
 ·intro i b X hb hX;rcases pre i b hb with⟨i₁,e1,_,e3,hcase⟩|⟨e1,e2,e3,e4⟩
  ·have hX':∃Y:yM,H1[i₁]?=some Y/\X=Y.ren (rM ι nx) (cst ns nst):=by
    rcases hcase with h2|⟨h2,h3,rfl⟩
    ·obtain⟨Y,hY,hY'⟩:=happArg i₁ _ h2;rw[hX]at hY';cases hY';exact⟨Y,hY,rfl⟩
    ·obtain⟨Y,hY,hY'⟩:=happNew i h2 h3;rw[hX]at hY';cases hY';exact⟨Y,hY,rfl⟩
   obtain⟨Y,hY,rfl⟩:=hX';obtain⟨q1,q2⟩:=hR₁.blk i₁ b Y e1 (by rw[xV];exact hH1' _ _ hY);rw[hE.F]at q1;exact⟨hF b q1,q2.ren hren (hH1 Y (List.mem_of_getElem? hY))⟩
  ·rw[happOld i e3 e4]at hX;obtain⟨q1,q2⟩:=hR.blk i b X e1 hX;rcases e2 with e2|e2;·exact⟨q1,q2.mono hExt (hkeep.block b e2)⟩
   ·rw[e2]at hX;cases hX;exact⟨q1,Nat.lt_of_lt_of_le q2 hkeep.size⟩
 ·intro b o hL;obtain⟨q1,q2⟩:=hR₁.live b o hL;refine⟨q1,λi e=>?_⟩;rcases pre i b e with⟨i₁,e1,_⟩|⟨e1,e2,_⟩;·exact q2 i₁ e1
  ·rcases hnewL b o hL with q|q;·exact(hR.live b o q).2 i e1
   ·obtain⟨t,q3,_⟩:=notF0 q (hR.ρ_lt e1);exact q2 t q3
 ·intro k hk;have hk':σ.ns+nst<=k:=hk;show(if k<σ.ns then _ else if k<σ.ns+nst then _ else none)=none;rw[if_neg (by omega),if_neg (by omega)]
 ·intro k hk;rcases hown k hk with⟨_,h2,h3⟩|⟨_,_,h3,h4⟩
  ·obtain⟨b,f',t,q1,q2|⟨q2,q3,q4,vs,T,q5,q6⟩⟩:=hR.own k h2;·exact⟨b,f',t,h3.trans q1,.inl q2⟩
   have hb:b<w.heap.size:=(Array.getElem?_eq_some_iff.1 q5).1;have hFb:F0 b:=⟨hb,λi _=>q3 i⟩;refine⟨b,f',t,h3.trans q1,.inr ⟨q2,λi e=>?_,λo ho ht hL=>?_,vs,T,(hkeep.block b hFb).trans q5,q6⟩⟩
   ·rcases pre i b e with⟨i₁,e1,_⟩|⟨e1,_⟩
    ·obtain⟨X,hX⟩:=hR₁.has e1;have:=(hR₁.blk i₁ b X e1 hX).1;rw[hE.F]at this;exact this hFb
    ·exact q3 i e1
   ·rcases hnewL b o hL with q|q;·exact q4 o ho ht q
    ·exact q hFb
  ·obtain⟨b,f',t,q1,q2|⟨q2,q3,q4,q5⟩⟩:=hR₁.own _ h4;·exact⟨b,f',t,h3.trans q1,.inl q2⟩
   rw[hE.F]at q2;exact⟨b,f',t,h3.trans q1,.inr ⟨hF b q2,hpreN b q3 q2,q4,q5⟩⟩
 ·intro k k' b f1 t1 f2 t2 hk hk' ht ht' l1 l2;rcases hown k hk with⟨a1,a2,a3⟩|⟨a1,a2,a3,a4⟩<;>rcases hown k' hk' with⟨c1,c2,c3⟩|⟨c1,c2,c3,c4⟩;·rw[a3]at ht;rw[c3]at ht';exact hR.ownd k k' b f1 t1 f2 t2 a2 c2 ht ht' l1 l2
  ·exfalso;rw[a3]at ht;obtain⟨b',f',t,q1,q2|⟨q2,q3,q4,vs,T,q5,q6⟩⟩:=hR.own k a2;·rw[ht]at q1;cases q1;omega
   rw[ht]at q1;cases q1;have hb:b<w.heap.size:=(Array.getElem?_eq_some_iff.1 q5).1;obtain⟨b',f',t,p1,p2|⟨p2,_⟩⟩:=hR₁.own _ c4;·rw[<-c3,ht']at p1;cases p1;omega
   rw[<-c3,ht']at p1;cases p1;rw[hE.F]at p2;exact p2 ⟨hb,λi _=>q3 i⟩
  ·exfalso;rw[c3]at ht';obtain⟨b',f',t,q1,q2|⟨q2,q3,q4,vs,T,q5,q6⟩⟩:=hR.own k' c2;·rw[ht']at q1;cases q1;omega
   rw[ht']at q1;cases q1;have hb:b<w.heap.size:=(Array.getElem?_eq_some_iff.1 q5).1;obtain⟨b',f',t,p1,p2|⟨p2,_⟩⟩:=hR₁.own _ a4;·rw[<-a3,ht]at p1;cases p1;omega
   rw[<-a3,ht]at p1;cases p1;rw[hE.F]at p2;exact p2 ⟨hb,λi _=>q3 i⟩
  ·rw[a3]at ht;rw[c3]at ht';have:=hR₁.ownd _ _ b f1 t1 f2 t2 a4 c4 ht ht' l1 l2;omega
 ·have hb:=hR.below;refine hb.trans ⟨hkeep.os,hkeep.tape,hkeep.output,hkeep.size,λk hk=>hkeep.block k ⟨hR.base k hk,λi _ e=>?_⟩⟩;obtain⟨X,hX⟩:=hR.has e;exact(hR.blk i k X e hX).1 hk
 ·intro k hk;exact Nat.lt_of_lt_of_le (hR.base k hk) hkeep.size
mutual def AV.frz:AV->AV|.val v=>.val v|.agg cs=>.agg (AV.frzL cs)|.tup cs=>.tup (AV.frzL cs)|.sl es n _=>.sl es n .no|.ip es=>.ip es|.mp i off=>.mp i off|.ms i off n c sz=>.ms i off n c sz|.obj i=>.obj i|.clo g fs cs=>.clo g (AV.frzL fs) (AV.frzL cs)def AV.frzL:List AV->List AV|[]=>[]|a::l=>AV.frz a::AV.frzL l end
theorem fJ:∀a b:List AV,AV.frzL (a++b)=AV.frzL a++AV.frzL b|[],_=>rfl|x::a,b=>by simp only[List.cons_append,AV.frzL,fJ a b]
theorem R4:∀a:List AV,(AV.frzL a).length=a.length|[]=>rfl|_::a=>by simp[AV.frzL,R4 a]
theorem zEf{α:Type}(f:α->AV):∀l:List α,AV.frzL (l.map f)=l.map λx=>(f x).frz|[]=>rfl|x::l=>by simp only[List.map_cons,AV.frzL,zEf f l]
mutual theorem V.frz{G:Gh}{w:World}:∀(a:AV)(u:Value),V G w a u->V G w a.frz u
 |.val v,u,hv=>hv|.agg cs,u,hv=>by simp only[V,AV.frz]at hv⊢;obtain⟨vs,rfl,hl⟩:=hv;exact⟨vs,rfl,VL.frz cs vs hl⟩|.tup cs,u,hv=>by simp only[V,AV.frz]at hv⊢;obtain⟨vs,rfl,hl⟩:=hv;exact⟨vs,rfl,VL.frz cs vs hl⟩|.sl es n o,u,hv=>by
  simp only[V,AV.frz]at hv⊢;obtain⟨cap,hc,hh⟩:=hv;refine⟨cap,hc,?_⟩;rcases hh with⟨rfl,h2,h3,h4,h5⟩|⟨b,off,hu,hcells,ho⟩;·exact .inl ⟨rfl,h2,h3,h4,trivial⟩
  ·exact .inr ⟨b,off,hu,hcells,trivial⟩|.ip es,u,hv=>hv|.mp i off,u,hv=>hv|.ms i off n c sz,u,hv=>hv|.obj i,u,hv=>hv|.clo g fs cs,u,hv=>by simp only[V,AV.frz]at hv⊢;obtain⟨l,r',hu,h1,h2⟩:=hv;exact⟨l,r',hu,VL.frz fs l h1,VL.frz cs r' h2⟩theorem VL.frz{G:Gh}{w:World}:∀(as0:List AV)(us:List Value),VL G w as0 us->VL G w (AV.frzL as0) us|[],[],_=>by simp only[AV.frzL,VL]|a::as0,u::us,hv=>by simp only[VL,AV.frzL]at hv⊢;exact⟨V.frz a u hv.1,VL.frz as0 us hv.2⟩|[],_::_,hv=>by simp only[VL]at hv|_::_,[],hv=>by simp only[VL]at hv end
theorem VC.frz{G:Gh}{w:World}:∀(as0:List AV)(b off:Nat),VC G w as0 b off->VC G w (AV.frzL as0) b off|[],_,_,_=>by simp only[AV.frzL,VC]|a::as0,b,off,h=>by simp only[VC,AV.frzL]at h⊢;obtain⟨h1,⟨v,h2,h3⟩,h4⟩:=h;exact⟨h1,⟨v,h2,V.frz a v h3⟩,VC.frz as0 b (off+1) h4⟩
def tidy(op:Op)(v:AV):AV:=match op,v with|.buildSlice _ _ _,.sl es n o=>.sl (AV.frzL es) n o|_,v=>v
theorem V.tidy{G:Gh}{w:World}{op:Op}{v:AV}{u:Value}(h:V G w v u):V G w (tidy op v) u:=by
 unfold Ab.tidy;split
 ·simp only[V]at h⊢;obtain⟨cap,hc,hh⟩:=h;refine⟨cap,hc,?_⟩;rcases hh with⟨rfl,h2,h3,h4,h5⟩|⟨b,off,hu,hcells,ho⟩;·exact .inl ⟨rfl,h2,h3,h4,h5⟩
  ·exact .inr ⟨b,off,hu,VC.frz _ _ _ hcells,by rw[R4];exact ho⟩
 ·exact h
inductive mS where|no|bit(b:Bool)|av(a:AV)|app(es:List AV)(n sz:Nat)(empty:Bool)|sl(es:List AV)(n:Nat)|fz(a:AV)|lk(a:AV)|mu(Y:yM)|mk(cs:List AV)(n:Nat)|mks(cs:List AV)(n:Nat)|mkc(cs:List AV)(n:Nat)|mkl(cs:List AV)(n:Nat)|cv(bs:ByteArray)|mz(cs:List AV)(n:Nat)|ld(a:AV)|cl|wt(cs:List AV)|same|inp(cs:List AV)|clr|zs|nx(v:AV)(Y:Option yM)|wk(a:AV)|call(ι:List Nat)(H1:List yM)(nst:Nat)(res:AV)(b:Option Bool)|callx(ι:List Nat)(H1:List yM)(nst:Nat)(res:AV)(b:Option Bool)|callk(kp:List (Nat×Nat))(ι:List Nat)(H1:List yM)(nst:Nat)(res:AV)
def zVA(ev:Operand->AV)(i:Nat)(X:yM)(v:AV):Option yM->LA|some Y=>{ev:=ev,wr:=[(i,X,Y)],v:=v}|none=>{ev:=ev,rd:=[(i,X)],v:=v}
def zJD(ev:Operand->AV)(ns:Nat)(own:List Nat)(o:Own)(es':List AV)(n' sz:Nat)(empty:Bool):Option LA:=bif empty then some {ev:=ev,v:=.sl es' n' o}else match o with|.full=>some {ev:=ev,ns:=ns,new:=1,v:=.sl es' n' (.st ns sz)}|.nl=>some {ev:=ev,ns:=ns,new:=1,v:=.sl es' n' (.st ns sz)}|.st k sz'=>bif own.any (Nat.beq k)&&Nat.beq sz' sz then some {ev:=ev,use:=[k],ns:=ns,new:=1,v:=.sl es' n' (.st ns sz)}else none|_=>none
structure CT(P:Program)(f:FuncId)(H0:List yM)(args:List AV)(res:AV)(H1:List yM)(nst:Nat):Prop where
 tri:uG P f H0 args res H1 nst
 args:AV.argL (λi=>i<H0.length) args
 H0:∀X∈H0,X.arg (λi=>i<H0.length)res:res.fine (λi=>i<H1.length)H1:∀X∈H1,X.fine (λi=>i<H1.length)
def Wk(a b:AV):Prop:=∀(G:Gh)(w:World)(u:Value),V G w a u->V G w b u
inductive Ob where|kp(H0 H1:List yM)(l:List (Nat×Nat))|call(f:FuncId)(H0:List yM)(args:List AV)(res:AV)(H1:List yM)(nst:Nat)|bit(b b':Bool)|av(x:Option AV)(a:AV)|app(t t2:TypeId)(es es2 es':List AV)(n n2 n' sz:Nat)(empty:Bool)|aps(t t2:TypeId)(es:List AV)(bs:ByteArray)(es':List AV)(n n' sz:Nat)(empty:Bool)|data(es:List AV)|cells(cs es:List AV)(len n:Nat)|fz(x:Option AV)(a:AV)|lk(t:TypeId)(X:yM)(key:AV)(ok:Bool)(a:AV)|mu(t:TypeId)(X:yM)(key val:AV)(Y:yM)|mk(x:Option (List AV×Nat))(cs:List AV)(n:Nat)|ld(x:Option AV)(a:AV)|wt(cs:List AV)(off:Nat)(v:AV)(sz:Nat)(cs':List AV)|same(t t2:TypeId)(n:Nat)|inp(x:Option (List AV))(cs:List AV)|clr(t:TypeId)(l off z:Nat)|ln(t:TypeId)(X:yM)(a:AV)|nx(X:yM)(v:AV)(Y:Option yM)|wk(a b:AV)|str(x:Option ByteArray)(bs:ByteArray)
def zHI(H0 H1:List yM):List (Nat×Nat)->Prop|[]=>True|p::l=>(∃a,pL (H0.getD p.1 .dead) p.2=some a/\pL (H1.getD p.1 .dead) p.2=some a/\∀r f g,a.ren r f=a.ren r g)/\zHI H0 H1 l
def Ob.ok(P:Program):Ob->Prop|.kp H0 H1 l=>zHI H0 H1 l|.call f H0 args res H1 nst=>CT P f H0 args res H1 nst|.bit b b'=>b=b'|.av x a=>x=some a|.app t t2 es es2 es' n n2 n' sz empty=>∀(ev:Operand->AV)(s:yW)(o o2:Own),mG P t t2 ev (.sl es n o) (.sl es2 n2 o2) s=zJD ev s.ns s.own o es' n' sz empty|.aps t t2 es bs es' n n' sz empty=>∀(ev:Operand->AV)(s:yW)(o:Own),mY P t t2 ev (.sl es n o) bs s=zJD ev s.ns s.own o es' n' sz empty|.nx X v Y=>∀(ev:Operand->AV)(i:Nat)(s:yW),look s.H i=some X->zBl ev (.mp i 0) true s=some (zVA ev i X v Y)|.wk a b=>Wk a b|.str x bs=>x=some bs|.data es=>AV.DataL es|.cells cs es len n=>cs=es/\len=n|.fz x a=>∃a0,x=some a0/\a0.frz=a|.lk t X key ok a=>∀(ev:Operand->AV)(i:Nat)(s:yW),look s.H i=some X->kB P t ev (.obj i) key ok s=some {ev:=ev,rd:=[(i,X)],v:=a}|.mu t X key val Y=>∀(ev:Operand->AV)(i:Nat)(s:yW),look s.H i=some X->rL P t ev (.obj i) key val s=some {ev:=ev,v:=.val undef,wr:=[(i,X,Y)]}|.mk x cs n=>x=some (cs,n)|.ld x a=>x=some a|.ln t X a=>∃es c kt et,X=.obj (.map es c)/\P.underlying t=some (.map kt et)/\a=.val (goInt es.size)|.inp x cs=>x=some cs|.clr t l off z=>l<=off/\∃e ie zv,P.underlying t=some (.slice e)/\P.info? e=some ie/\ie.zero=some zv/\zv.cells.size=z/\zv.cells.toList.all Value.oneCell'=true|.same t t2 n=>t=t2/\n=0/\∃e ie,P.underlying t=some (.slice e)/\P.info? e=some ie|.wt cs off v sz cs'=>v.sound=true/\(rG v).length=sz/\off+sz<=cs.length/\splice cs off (rG v)=cs'
def K1(P:Program)(t:TypeId):Nat:=match P.underlying t with
 |some (.slice e)=>match P.info? e with|some ie=>ie.size|none=>0
 |_=>0
def mH(P:Program)(t:TypeId)(l c:AV):Option (List AV×Nat):=match P.underlying t,l,c with
 |some (.slice e),.val (.int .i64 l),.val (.int .i64 c)=>match P.info? e with
  |some ie=>match ie.zero with
   |some z=>if l=c/\0<=l/\l*ie.bytes<=140737488355328/\l<=9223372036854775807/\z.cells.size=ie.size/\1<=ie.size then some ((List.range (l.toNat*ie.size)).map λj=>(ofV 8 (z.cells.getD (j%z.cells.size) undef)).frz,l.toNat)else none|none=>none
  |none=>none
 |_,_,_=>none
theorem zHJ{P:Program}{dst:Option Tmp}{t:TypeId}{l c:Operand}{type:TypeId}{pos:String}{after:Array Edge}{guard:Option (Nat×Bool)}{ev:Operand->AV}{s:yW}{cs:List AV}{n:Nat}(h:mH P t (ev l) (ev c)=some (cs,n)):xW P ⟨dst,.makeSlice t l c,type,pos,after,guard⟩ {ev:=ev,al:=[(s.nx,.row cs)],v:=.ms s.nx 0 n n (K1 P t)}:=by
 unfold mH at h;split at h
 ·rename_i e l' c' hut hl hc;split at h
  ·rename_i ie hie;split at h
   ·rename_i z hz;split at h
    ·rename_i hcond;obtain⟨rfl,h0,hb,h63,hzs,h1⟩:=hcond;cases h;refine xW.value λG σ w a hR hx hcan=>?_;have hlx:V G w (ev l) (a.eval l):=hx l (by simp[Op.operands]);have hcx:V G w (ev c) (a.eval c):=hx c (by simp[Op.operands]);rw[hl]at hlx;rw[hc]at hcx;simp only[V]at hlx hcx;have hn:σ.H s.nx=none:=hcan.al _ _ (List.mem_singleton.2 rfl);have hzl:∀m,VL G w ((List.range m).map λj=>(ofV 8 (z.cells.getD (j%z.cells.size) undef)).frz) ((List.range m).map λj=>z.cells.getD (j%z.cells.size) undef):=by intro m;have:=VL.map_ofV (G:=G) (w:=w) (f:=λv=>(ofV 8 v).frz) (λv=>V.frz _ _ (V.ofV 8 v)) ((List.range m).map λj=>z.cells.getD (j%z.cells.size) undef);simpa[List.map_map,Function.comp_def]using this
     refine⟨.slice (some ⟨w.heap.size,0,none⟩) l'.toNat l'.toNat,w.alloc (.cells ((List.range (l'.toNat*ie.size)).map λj=>z.cells.getD (j%z.cells.size) undef).toArray e),G.addρ s.nx w.heap.size,?_,wV.alloc hR _ hn,?_,?_⟩
     ·have hz':madeCells z.cells (l'.toNat*ie.size)=((List.range (l'.toNat*ie.size)).map λj=>z.cells.getD (j%z.cells.size) undef).toArray:=by apply Array.ext';rw[madeCells,Array.toList_map,Array.toList_range];apply List.map_congr_left;intro j _;have hlt:j%z.cells.size<z.cells.size:=Nat.mod_lt _ (by omega);simp[hlt]
      have hm:=run_make (P:=P) w t e ie z hut hie hz .i64 .i64 l' l' h0 (Int.le_refl _) (by rw[Int.mul_comm];omega) h63;rw[hz']at hm;simp[execOp,hlx,hcx,hm]
     ·rw[aI];exact hR.alloc_row _ _ e (hzl (l'.toNat*ie.size)) hn
     ·simp only[V];exact .inl ⟨w.heap.size,l'.toNat,yH _ _ _,⟨Nat.le_refl _,Nat.le_refl _⟩,0,rfl,.inl ⟨rfl,_,e,wL w _,by simp[K1,hut,hie]⟩⟩
    ·cases h
   ·cases h
  ·cases h
 ·cases h
def jB(q:Bool)(P:Program)(t:TypeId)(len:Nat)(parts:Array (Nat×Operand))(ev:Operand->AV):Option (List AV×Nat):=match P.underlying t with
 |some (.slice e)=>match P.info? e with
  |some ie=>match ie.zero with
   |some z=>bif Nat.beq z.cells.size ie.size&&Nat.ble (len*ie.size) 16777216&&Nat.ble 1 ie.size then match Y4 (λi=>some (i*ie.size,ie.size)) ((List.range (len*ie.size)).map λj=>ofV 8 (z.cells.getD (j%z.cells.size) undef)) (J8 ev parts)with|some cs=>if cs.length=len*ie.size then some (bif q then cs else AV.frzL cs,len)else none|none=>none else none|none=>none
  |none=>none
 |_=>none
def zJE(P:Program)(t:TypeId)(len:Nat)(parts:Array (Nat×Operand))(ev:Operand->AV):Option (List AV×Nat):=jB false P t len parts ev
theorem R5{q:Bool}{P:Program}{dst:Option Tmp}{t:TypeId}{len:Nat}{parts:Array (Nat×Operand)}{type:TypeId}{pos:String}{after:Array Edge}{guard:Option (Nat×Bool)}{ev:Operand->AV}{s:yW}{cs:List AV}{n:Nat}(h:jB q P t len parts ev=some (cs,n)){X:yM}(hX:X=.row cs\/X=.cells cs):xW P ⟨dst,.buildSlice t len parts,type,pos,after,guard⟩ {ev:=ev,al:=[(s.nx,X)],v:=.ms s.nx 0 n n (K1 P t)}:=by
 unfold jB at h;split at h
 ·rename_i e hut;split at h
  ·rename_i ie hie;split at h;·rename_i z hz;cases hcond:(Nat.beq z.cells.size ie.size&&Nat.ble (len*ie.size) 16777216&&Nat.ble 1 ie.size)with|false=>rw[hcond]at h;cases h|true=>
    rw[hcond,cond_true]at h;simp only[Bool.and_eq_true]at hcond;obtain⟨⟨c1,c2⟩,c3⟩:=hcond;replace c1:=Nat.eq_of_beq_eq_true c1;replace c2:=Nat.le_of_ble_eq_true c2;replace c3:=Nat.le_of_ble_eq_true c3;split at h
    ·rename_i cs0 hcs;split at h;case isFalse=>cases h
     rename_i hlen;cases h;refine xW.value λG σ w a hR hx hcan=>?_;have hn:σ.H s.nx=none:=hcan.al _ _ (List.mem_singleton.2 rfl);have hVP:=VP.map (G:=G) (w:=w) (ev:=ev) (a:=a) parts.toList (λp hp=>hx p.2 (by simp[Op.operands];exact⟨p.1,by simpa using hp⟩));have hzl:∀m,VL G w ((List.range m).map λj=>ofV 8 (z.cells.getD (j%z.cells.size) undef)) ((List.range m).map λj=>z.cells.getD (j%z.cells.size) undef):=by intro m;have:=VL.map_ofV (G:=G) (w:=w) (f:=ofV 8) (V.ofV 8) ((List.range m).map λj=>z.cells.getD (j%z.cells.size) undef);simpa[List.map_map,Function.comp_def]using this
     have hz':((Array.range (len*ie.size)).map (z.cells[·%z.cells.size]!)).toList=(List.range (len*ie.size)).map λj=>z.cells.getD (j%z.cells.size) undef:=by rw[Array.toList_map,Array.toList_range];apply List.map_congr_left;intro j _;have hlt:j%z.cells.size<z.cells.size:=Nat.mod_lt _ (by omega);simp[hlt]
     obtain⟨r',hr',hv⟩:=C1 (G:=G) (w:=w) (J8 ev parts) (parts.toList.map λp=>(p.1,a.eval p.2)) _ ((Array.range (len*ie.size)).map (z.cells[·%z.cells.size]!)) cs0 hVP (by rw[hz'];exact hzl _) hcs;refine⟨.slice (some ⟨w.heap.size,0,none⟩) len len,w.alloc (.cells r'.toList.toArray e),G.addρ s.nx w.heap.size,?_,wV.alloc hR _ hn,?_,?_⟩
     ·have hq:¬len*ie.size>2^24:=by omega
      simp only[execOp,Sem.run_bind,Instr.buildSlice,run_underlying hut,Sem.run_pure,Result.andThen_ok,wB hie];rw[if_neg hq];have e2:(parts.map λ(i,x)=>(i,a.eval x)).toList=parts.toList.map λp=>(p.1,a.eval p.2):=by rw[Array.toList_map]
      by_cases h0:len*ie.size=0
      ·rw[if_pos h0];have h00:∀f:Nat->Value,Array.map f (Array.range 0)=#[]:=λf=>by simp[Array.range_zero']
       simp only[h0,h00]at hr';simp only[Sem.run_bind,Sem.run_pure,Result.andThen_ok,h0,e2,h00,hr'];simp[newRow]
      ·rw[if_neg h0];simp only[Sem.run_bind,Sem.run_pure,Result.andThen_ok,rJ hie hz,e2,hr'];simp[newRow]
     ·rw[aI];have hv2:VL G w (bif q then cs0 else AV.frzL cs0) r'.toList:=by cases q;exact VL.frz _ _ hv;exact hv
      rcases hX with rfl|rfl;·exact hR.alloc_row _ _ e hv2 hn
      ·exact hR.alloc_cells _ _ e hv2 hn
     ·simp only[V];exact .inl ⟨w.heap.size,len,yH _ _ _,⟨Nat.le_refl _,Nat.le_refl _⟩,0,rfl,.inl ⟨rfl,_,e,wL w _,by have hl:=VL.length _ _ hv;rw[hlen]at hl;simp[K1,hut,hie]at hl⊢;omega⟩⟩
    ·cases h
   ·cases h
  ·cases h
 ·cases h
theorem R6{q:Bool}{P:Program}{dst:Option Tmp}{t:TypeId}{len:Nat}{parts:Array (Nat×Operand)}{type:TypeId}{pos:String}{after:Array Edge}{guard:Option (Nat×Bool)}{ev:Operand->AV}{s:yW}{cs:List AV}{n:Nat}(h:jB q P t len parts ev=some (cs,n)):xW P ⟨dst,.buildSlice t len parts,type,pos,after,guard⟩ {ev:=ev,al:=[(s.nx,.row cs)],v:=.ms s.nx 0 n n (K1 P t)}:=R5 h (.inl rfl)
theorem zHK{P:Program}{dst:Option Tmp}{t:TypeId}{len:Nat}{parts:Array (Nat×Operand)}{type:TypeId}{pos:String}{after:Array Edge}{guard:Option (Nat×Bool)}{ev:Operand->AV}{s:yW}{cs:List AV}{n:Nat}(h:zJE P t len parts ev=some (cs,n)):xW P ⟨dst,.buildSlice t len parts,type,pos,after,guard⟩ {ev:=ev,al:=[(s.nx,.row cs)],v:=.ms s.nx 0 n n (K1 P t)}:=R6 h
def zOv(P:Program)(t t2:TypeId)(y:AV):Option (List AV×Nat):=match P.underlying t2,y with|some (.int _),.val (.int .i64 m)=>if 1<=m then mH P t y y else none|_,_=>none
theorem K2{P:Program}{w:World}{t t2 ty e:TypeId}{k:IntKind}{ie:TypeInfo}{z:Value}(ht:P.underlying t=some (.slice e))(h2:P.underlying t2=some (.int k))(hi:P.info? e=some ie)(hz:ie.zero=some z)(p:Option Addr)(m:Int)(h0:1<=m)(h63:m<=9223372036854775807)(h48:m*ie.bytes<=140737488355328)(hs:1<=ie.size)(hzs:z.cells.size=ie.size):(Builtin.append_ #[t,t2] ty #[.slice p 0 0,.int .i64 m]).run P w=.ok (.slice (some ⟨w.heap.size,0,none⟩) m.toNat (grownCap w m.toNat 0 e)) (w.drew.alloc (.cells (Builtin.zeroCells z.cells m.toNat++Builtin.zeroCells z.cells (grownCap w m.toNat 0 e-m.toNat)) e)):=by
 have hw:IntKind.i64.wrap m=m:=by rw[IntKind.wrap_i64];omega
 have hneg:¬(m<0):=by omega
 have hn:¬(m.toNat<=0):=by omega
 have hmm:((m.toNat:Nat):Int)=m:=by omega
 have hb:¬((281474976710656:Int)<m*ie.bytes):=by omega
 have h63':¬((9223372036854775807:Int)<m):=by omega
 have hbn:m.toNat*ie.bytes<=140737488355328:=by
  have:((m.toNat*ie.bytes:Nat):Int)<=140737488355328:=by rw[Int.natCast_mul,hmm];exact h48
  omega
 have h48':¬(281474976710656<Builtin.nextslicecap m.toNat 0*ie.bytes):=by rw[nextslicecap_zero (by omega)];omega
 have hm0:¬(m<=0):=by omega
 have hmx:¬((9223372036854775807:Int)<max m 0):=by omega
 have hns:¬(m.toNat*ie.size=0):=by have:1<=m.toNat*ie.size:=Nat.mul_pos (by omega) hs;omega
 have hf:(Builtin.firstCells ie.size 0 (.slice p 0 0)).run P w.drew=.ok #[] w.drew:=by cases p with|none=>exact run_firstCells_none ..|some q=>exact run_firstCells_some (P:=P) w.drew ie.size 0 q 0 0 [] (by simp) (λj v hj=>by simp at hj)
 simp[Builtin.append_,run_underlying ht,run_underlying h2,sizeOf,typeInfo,zeroValue,hi,hz,asInt,asIntOf,hw,hneg,hb,hn,hm0,hmx,hf,h63',h48',hns,hmm,Question.forced,run_firstCells_none,newRow,grownCap]
def zCR(P:Program)(s d:TypeId)(cs:List AV)(n:Nat):Option ByteArray:=match P.underlying s,P.underlying d with
 |some (.slice e),some .string=>match P.underlying e,zEu (cs.take n)with|some (.int .u8),some ns=>if ns.length=n then some (zLo ns)else none|_,_=>none
 |_,_=>none
theorem zHL{P:Program}{dst:Option Tmp}{type:TypeId}{pos:String}{after:Array Edge}{guard:Option (Nat×Bool)}{st dt:TypeId}{x:Operand}{ev:Operand->AV}{i n c:Nat}{cs:List AV}{bs:ByteArray}(hx0:ev x=.ms i 0 n c 1)(h:zCR P st dt cs n=some bs):xW P ⟨dst,.convert st dt x,type,pos,after,guard⟩ {ev:=ev,rd:=[(i,.row cs)],v:=.val (.string bs)}:=by
 unfold zCR at h;split at h
 ·rename_i e hs hd;split at h
  ·rename_i ns he hns;split at h
   ·rename_i hlen;cases h;refine xW.reads λG σ w a hR hx hrd=>?_;have hxx:V G w (ev x) (a.eval x):=hx x (by simp[Op.operands]);rw[hx0]at hxx;simp only[V]at hxx;rcases hxx with⟨b,cap,hb,hnc,o,hxe,⟨rfl,_⟩|⟨_,h0⟩⟩|⟨⟨rfl,_⟩,_,q,hxe⟩;rotate_left;·exact absurd h0 (Nat.lt_irrefl _)
    ·have hz:ns=[]:=List.length_eq_zero_iff.1 hlen;subst hz;refine⟨.string (zLo []),?_,by simp only[V]⟩;have hr:(convert st dt (a.eval x)).run P w=.ok (.string (zLo [])) w:=by rw[hxe,run_convert_bytes_string w st dt e _ _ _ hs he hd];cases q with|none=>rfl|some q=>exact run_bytesToString w q 0 0 [] (by simpa using run_loadCells_list (P:=P) (w:=w) q [] (by simp))
     simp[execOp,hr]
    obtain⟨_,vs,T,hh,us,rest,hus,hvl⟩:=hR.blk i b _ hb (hrd i _ (List.mem_singleton.2 rfl));have hes:=Y5 _ _ hns;have hv:VL G w (cs.take n) (us.take n):=VL.take _ _ n hvl;rw[hes]at hv;have hvs:=VL.bytes _ _ hv;refine⟨.string (zLo ns),?_,by simp only[V]⟩;have hr:(convert st dt (a.eval x)).run P w=.ok (.string (zLo ns)) w:=by
     rw[hxe,run_convert_bytes_string w st dt e _ _ _ hs he hd];refine run_bytesToString w ⟨b,0,none⟩ n cap ns ?_;have:=run_loadCells_list (P:=P) (w:=w) ⟨b,0,none⟩ (ns.map (Value.int .u8)) λc v hc=>by
      rw[<-hvs,List.getElem?_take]at hc;split at hc
      ·have h3:vs.toList[c]?=some v:=by rw[hus,List.getElem?_append_left (List.getElem?_eq_some_iff.1 hc).1];exact hc
       rw[Addr.add_lit];simp only[World.cell?,hh];simpa using h3
      ·cases hc
     rw[List.length_map,hlen]at this;exact this
    simp[execOp,hr]
   ·cases h
  ·cases h
 ·cases h
theorem zHM{z:Array Value}{n s:Nat}(h:z.size=s)(hs:1<=s):(Builtin.zeroCells z n).toList=(List.range (n*s)).map λj=>z.getD (j%z.size) undef:=by subst h;rw[Builtin.zeroCells,Array.toList_map,Array.toList_range];apply List.map_congr_left;intro j _;have hlt:j%z.size<z.size:=Nat.mod_lt _ (by omega);simp[hlt]
theorem zOu{P:Program}{dst:Option Tmp}{type:TypeId}{pos:String}{after:Array Edge}{guard:Option (Nat×Bool)}{t t2:TypeId}{x y:Operand}{ev:Operand->AV}{s:yW}{cs:List AV}{n:Nat}(hx0:ev x=.sl [] 0 .nl)(h:zOv P t t2 (ev y)=some (cs,n)):xW P ⟨dst,.call {callee:=.builtin .append,args:=#[x,y],argTypes:=#[t,t2]},type,pos,after,guard⟩ {ev:=ev,al:=[(s.nx,.row cs)],v:=.ms s.nx 0 n n (K1 P t)}:=by
 unfold zOv at h;split at h
 ·rename_i k m h2 hy0;split at h
  ·rename_i h1m;rw[hy0]at h;unfold mH at h;split at h
   ·rename_i e l' c' hut hl hc;cases hl;cases hc;split at h
    ·rename_i ie hie;split at h
     ·rename_i z hz;split at h
      ·rename_i hcond;obtain⟨_,h0,hb,h63,hzs,h1⟩:=hcond;cases h;refine xW.value λG σ w a hR hx hcan=>?_;have hxx:V G w (ev x) (a.eval x):=hx x (by simp[Op.operands,Call.operands]);have hyy:V G w (ev y) (a.eval y):=hx y (by simp[Op.operands,Call.operands]);rw[hx0]at hxx;rw[hy0]at hyy;obtain⟨p,hxe⟩:=dF (.inl rfl) hxx;simp only[V]at hyy;have hn:σ.H s.nx=none:=hcan.al _ _ (List.mem_singleton.2 rfl);have hzl:∀q,VL G w ((List.range q).map λj=>(ofV 8 (z.cells.getD (j%z.cells.size) undef)).frz) ((List.range q).map λj=>z.cells.getD (j%z.cells.size) undef):=by intro q;have:=VL.map_ofV (G:=G) (w:=w) (f:=λv=>(ofV 8 v).frz) (λv=>V.frz _ _ (V.ofV 8 v)) ((List.range q).map λj=>z.cells.getD (j%z.cells.size) undef);simpa[List.map_map,Function.comp_def]using this
       have hge:=grownCap_ge w m.toNat 0 e;have hE0:=wV.drew G w;have hR2:=yK.drew hR;have hE1:=wV.alloc hR2 (.cells (Builtin.zeroCells z.cells m.toNat++Builtin.zeroCells z.cells (grownCap w m.toNat 0 e-m.toNat)) e) hn;refine⟨.slice (some ⟨w.heap.size,0,none⟩) m.toNat (grownCap w m.toNat 0 e),_,G.addρ s.nx w.heap.size,?_,hE0.trans hE1,?_,?_⟩
       ·have hm:=K2 (P:=P) (w:=w) (ty:=type) hut h2 hie hz p m h1m h63 hb h1 hzs;simp[execOp,resolve,invoke,builtin,hxe,hyy,hm]
       ·rw[aI];exact hR2.alloc _ (.row _) hn ⟨_,e,wL _ _,_,(Builtin.zeroCells z.cells (grownCap w m.toNat 0 e-m.toNat)).toList,by rw[Array.toList_append,zHM hzs h1],VL.mono (hE0.trans hE1) _ _ (hzl _)⟩
       ·simp only[V];refine .inl ⟨w.heap.size,_,yH _ _ _,⟨Nat.le_refl _,hge⟩,0,rfl,.inl ⟨rfl,_,e,wL _ _,?_⟩⟩;simp only[Array.size_append,size_zeroCells,hzs,K1,hut,hie,Nat.zero_add];rw[<-Nat.add_mul];exact Nat.mul_le_mul_right _ (by omega)
      ·cases h
     ·cases h
    ·cases h
   ·cases h
  ·cases h
 ·cases h
def yR(P:Program):List Ob->Prop|[]=>True|o::l=>o.ok P/\yR P l
theorem yR.append{P:Program}:∀{a b:List Ob},yR P (a++b)->yR P a/\yR P b|[],_,h=>⟨trivial,h⟩|_::a,_,h=>by obtain⟨h1,h2⟩:=h;obtain⟨h3,h4⟩:=yR.append (a:=a) h2;exact⟨⟨h1,h3⟩,h4⟩
def zYE:Op->Bool|.buildSlice ..|.binOp ..|.unOp ..|.call _|.extract ..|.index ..|.indexAddr ..|.slice ..|.lookup ..|.mapUpdate ..|.convert ..|.load ..|.store ..|.makeSlice ..|.next ..=>true|_=>false
def LA.bit?(la:LA):Option Bool:=match la.v with|.val (.bool b)=>some b|_=>none
def LA.set(la:LA)(v:AV):LA:={la with v:=v}
def zHN(P:Program)(op:Op)(ev:Operand->AV)(s:yW)(os:List mS):Option (LA×List mS×List Ob):=bif zYE op then match os with
 |.no::os=>(R2 P op ev s).map λla=>(la.set (tidy op la.v),os,[])|.wk a::os=>(R2 P op ev s).map λla=>(la.set a,os,[.wk la.v a])|.bit b::os=>match R2 P op ev s with
  |some la=>match la.bit? with|some b0=>some (la.set (.val (.bool b)),os,[.bit b0 b])|none=>none
  |none=>none
 |.av a::os=>some ({ev:=ev,v:=a},os,[.av (pop P op ev) a])|.fz a::os=>some ({ev:=ev,v:=a},os,[.fz (pop P op ev) a])|.lk a::os=>match op with
  |.lookup t x y ok=>match ev x with
   |.obj i=>match look s.H i with|some X=>some ({ev:=ev,rd:=[(i,X)],v:=a},os,[.lk t X (ev y) ok a])|none=>none
   |_=>none
  |.call {callee:=.builtin .len,args,argTypes}=>match args.toList,argTypes.toList with
   |[x],[t]=>match ev x with
    |.obj i=>match look s.H i with|some X=>some ({ev:=ev,rd:=[(i,X)],v:=a},os,[.ln t X a])|none=>none
    |_=>none
   |_,_=>none
  |_=>none
 |.mu Y::os=>match op with
  |.mapUpdate t x y z=>match ev x with
   |.obj i=>match look s.H i with|some X=>some ({ev:=ev,v:=.val undef,wr:=[(i,X,Y)]},os,[.mu t X (ev y) (ev z) Y])|none=>none
   |_=>none
  |_=>none
 |.nx v Y::os=>match op with
  |.next x true=>match ev x with
   |.mp i 0=>match look s.H i with|some X=>some (zVA ev i X v Y,os,[.nx X v Y])|none=>none
   |_=>none
  |_=>none
 |.mk cs n::os=>match op with
  |.makeSlice t l c=>some ({ev:=ev,al:=[(s.nx,.row cs)],v:=.ms s.nx 0 n n (K1 P t)},os,[.mk (mH P t (ev l) (ev c)) cs n])|.buildSlice t len parts=>some ({ev:=ev,al:=[(s.nx,.row cs)],v:=.ms s.nx 0 n n (K1 P t)},os,[.mk (zJE P t len parts ev) cs n])|.call {callee:=.builtin .append,args,argTypes}=>match args.toList,argTypes.toList with
   |[x,y],[t,t2]=>match aK s.H (ev x),aL s.H (ev y)with|some (d,m,c),some (sr,es,m2,z2)=>some ({ev:=ev,rd:=srd sr,wr:=d.wr,al:=[(s.nx,.row cs)],v:=.ms s.nx 0 n n (kW P t)},os,[.mk (lY P t t2 (d.z (ev x)) c m (sr.map λq=>(q.1,q.1,z2)) es m2) cs n])|_,_=>none
   |_,_=>none
  |_=>none
 |.mkl cs n::os=>match op with|.buildSlice t len parts=>some ({ev:=ev,al:=[(s.nx,.cells cs)],v:=.ms s.nx 0 n n (K1 P t)},os,[.mk (jB true P t len parts ev) cs n])|_=>none
 |.mkc cs n::os=>match op with
  |.buildSlice t len parts=>some ({ev:=ev,al:=[(s.nx,.row cs)],v:=.ms s.nx 0 n n (K1 P t)},os,[.mk (jB true P t len parts ev) cs n])|.call {callee:=.builtin .append,args,argTypes}=>match args.toList,argTypes.toList with
   |[x,y],[t,t2]=>match ev x,ev y with
    |.ms i 0 m _ z,.sl es m2 _=>match look s.H i with|some (.cells c0)=>some ({ev:=ev,wr:=[(i,.cells c0,.dead)],al:=[(s.nx,.row cs)],v:=.ms s.nx 0 n n (kW P t)},os,[.mk (lY P t t2 (some z) c0 m none es m2) cs n])|_=>none
    |_,_=>none
   |_,_=>none
  |_=>none
 |.cv bs::os=>match op with
  |.convert st dt x=>match ev x with
   |.ms i 0 n _ 1=>match look s.H i with|some (.row cs)=>some ({ev:=ev,rd:=[(i,.row cs)],v:=.val (.string bs)},os,[.str (zCR P st dt cs n) bs])|_=>none
   |_=>none
  |_=>none
 |.mks cs n::os=>match op with
  |.call {callee:=.builtin .append,args,argTypes}=>match args.toList,argTypes.toList with
   |[x,y],[t,t2]=>match aK s.H (ev x),ev y with|some (d,m,c),.val (.string bs)=>some ({ev:=ev,wr:=d.wr,al:=[(s.nx,.row cs)],v:=.ms s.nx 0 n n (kW P t)},os,[.mk (zNQ P t t2 (d.z (ev x)) c m bs) cs n])|_,_=>none
   |_,_=>none
  |_=>none
 |.mz cs n::os=>match op with
  |.call {callee:=.builtin .append,args,argTypes}=>match args.toList,argTypes.toList with
   |[x,y],[t,t2]=>match ev x with|.sl [] 0 .nl=>some ({ev:=ev,al:=[(s.nx,.row cs)],v:=.ms s.nx 0 n n (K1 P t)},os,[.mk (zOv P t t2 (ev y)) cs n])|_=>none
   |_,_=>none
  |_=>none
 |.same::os=>match op with
  |.call {callee:=.builtin .append,args,argTypes}=>match args.toList,argTypes.toList with
   |[x,y],[t,t2]=>match aK s.H (ev x),aL s.H (ev y)with|some _,some (_,_,m2,_)=>some ({ev:=ev,v:=ev x},os,[.same t t2 m2])|_,_=>none
   |_,_=>none
  |_=>none
 |.inp cs::os=>match op with
  |.call {callee:=.builtin .append,args,argTypes}=>match args.toList,argTypes.toList with
   |[x,y],[t,t2]=>match ev x with
    |.ms i 0 n c z=>match look s.H i,aL s.H (ev y)with|some (.row c0),some (sr,es,n2,z2)=>some ({ev:=ev,rd:=srd sr,wr:=[(i,.row c0,.row cs)],v:=.ms i 0 (n+n2) c z},os,[.inp (zHB P t t2 z c0 n c (sr.map λ_=>z2) es n2) cs])|_,_=>none
    |_=>none
   |_,_=>none
  |_=>none
 |.clr::os=>match op with
  |.call {callee:=.builtin .clear,args,argTypes}=>match args.toList,argTypes.toList with
   |[x],[t]=>match ev x with
    |.ms i off _ _ z=>match look s.H i with|some (.row c0)=>some ({ev:=ev,wr:=[(i,.row c0,.row c0)],v:=.tup []},os,[.clr t c0.length off z])|_=>none
    |_=>none
   |_,_=>none
  |_=>none
 |.zs::os=>match op with
  |.slice t x none (some y) (some z)=>match P.underlying t,ev x,ev y,ev z with
   |some (.slice e),.ms _ _ _ _ _,.val (.int _ 0),.val (.int _ 0)=>match P.info? e with|some _=>some ({ev:=ev,v:=.sl [] 0 .full},os,[])|none=>none
   |_,_,_,_=>none
  |_=>none
 |.ld a::os=>match op with
  |.load t x=>match tsz P t,ev x with
   |some q,.mp i off=>match look s.H i with|some (.row cs)=>some ({ev:=ev,rd:=[(i,.row cs)],v:=a},os,[.ld (qU q (cs.drop off)) a])|_=>none
   |_,_=>none
  |_=>none
 |.cl::os=>match op with
  |.load t x=>match tsz P t,ev x with
   |some (false,_),.mp i off=>match look s.H i with
    |some (.cells cs)=>match cs[off]? with|some r=>some ({ev:=ev,rc:=[(i,off,r)],v:=r},os,[])|none=>none
    |_=>none
   |_,_=>none
  |_=>none
 |.wt cs'::os=>match op with
  |.store t x y=>match P.info? t,ev x with
   |some ti,.mp i off=>match look s.H i with|some (.row cs)=>some ({ev:=ev,wr:=[(i,.row cs,.row cs')],v:=.val undef},os,[.wt cs off (ev y) ti.size cs'])|_=>none
   |_,_=>none
  |_=>none
 |.sl es' n'::os=>match R2 P op ev s with
  |some la=>match tidy op la.v with|.sl cs len o=>some (la.set (.sl es' n' o),os,[.cells cs es' len n'])|_=>none
  |none=>none
 |.app es' n' sz empty::os=>match op with
  |.call {callee:=.builtin .append,args,argTypes}=>match args.toList,argTypes.toList with
   |[x,y],[t,t2]=>match ev x,ev y with
    |.sl es n o,.sl es2 n2 _=>match zJD ev s.ns s.own o es' n' sz empty with|some la=>some (la,os,[.app t t2 es es2 es' n n2 n' sz empty])|none=>none
    |.sl es n o,.val (.string bs)=>match zJD ev s.ns s.own o es' n' sz empty with|some la=>some (la,os,[.aps t t2 es bs es' n n' sz empty])|none=>none
    |_,_=>none
   |_,_=>none
  |_=>none
 |_=>none else(R2 P op ev s).map λla=>(la.set (tidy op la.v),os,[])
mutual def AV.numB(ι:List Nat):AV->Bool
 |.val _=>true|.agg cs=>AV.numLB ι cs|.tup cs=>AV.numLB ι cs|.sl _ _ o=>match o with|.st _ _=>false|.fr=>false|_=>true
 |.ip _=>true|.mp i _=>ι.any (Nat.beq i)|.ms i _ _ _ _=>ι.any (Nat.beq i)|.obj i=>ι.any (Nat.beq i)|.clo _ fs cs=>AV.numLB ι fs&&AV.numLB ι cs def AV.numLB(ι:List Nat):List AV->Bool|[]=>true|a::l=>AV.numB ι a&&AV.numLB ι l end
mutual theorem zRT{ι:List Nat}{nx:Nat}:∀a:AV,a.numB ι=true->(a.ren (uV ι) kO).ren (rM ι nx) kO=a
 |.val _,_=>rfl|.agg cs,h=>by simp only[AV.ren,qW cs h]|.tup cs,h=>by simp only[AV.ren,qW cs h]|.sl es n o,h=>by cases o with|no=>rfl|full=>rfl|nl=>rfl|nn=>rfl|z=>rfl|fr=>simp[AV.numB]at h|st k sz=>simp[AV.numB]at h
 |.ip _,_=>rfl|.mp i off,h=>by obtain⟨t,ht⟩:=kZ (vV.1 h);simp only[AV.ren,uV,ht,Option.getD_some,rM,oJ ht]|.ms i off n c sz,h=>by obtain⟨t,ht⟩:=kZ (vV.1 h);simp only[AV.ren,uV,ht,Option.getD_some,rM,oJ ht]|.obj i,h=>by obtain⟨t,ht⟩:=kZ (vV.1 h);simp only[AV.ren,uV,ht,Option.getD_some,rM,oJ ht]|.clo g fs cs,h=>by simp only[AV.numB,Bool.and_eq_true]at h;simp only[AV.ren,qW fs h.1,qW cs h.2]theorem qW{ι:List Nat}{nx:Nat}:∀as0:List AV,AV.numLB ι as0=true->AV.renL (rM ι nx) kO (AV.renL (uV ι) kO as0)=as0|[],_=>rfl|a::as0,h=>by simp only[AV.numLB,Bool.and_eq_true]at h;simp only[AV.renL,zRT a h.1,qW as0 h.2]end
def yM.numB(ι:List Nat):yM->Bool|.cells cs=>AV.numLB ι cs|.obj _=>true|.row _=>true|.dead=>true
theorem zEe{ι:List Nat}{nx:Nat}{X:yM}(h:X.numB ι=true):(X.ren (uV ι) kO).ren (rM ι nx) kO=X:=by cases X with|cells cs=>simp only[yM.ren,qW cs h]|obj o=>rfl|row cs=>rfl|dead=>rfl
def uW(H:List (Nat×yM))(ι:List Nat):List Nat->List yM|[]=>[]|i::l=>((look H i).getD (.cells [])).ren (uV ι) kO::uW H ι l
def inB(H:List (Nat×yM))(ι:List Nat):List Nat->Bool|[]=>true|i::l=>(match look H i with|some X=>X.numB ι|none=>false)&&inB H ι l
theorem aN{H:List (Nat×yM)}{ι:List Nat}:∀l,(uW H ι l).length=l.length|[]=>rfl|_::l=>by simp[uW,aN l]
theorem zOt{H:List (Nat×yM)}{ι:List Nat}{nx:Nat}{f:Nat->Option Nat}:∀(l:List Nat)(H1:List yM),inB H ι l=true->∀i X Y,(i,X,Y)∈J7 (rM ι nx) f l (uW H ι l) H1->look H i=some X
 |[],_,_,i,X,Y,h=>by simp[J7]at h|j::l,[],_,i,X,Y,h=>by simp[J7,uW]at h|j::l,Z::H1,hb,i,X,Y,h=>by
  simp only[inB,Bool.and_eq_true]at hb;simp only[J7,uW,List.mem_cons,Prod.mk.injEq]at h;rcases h with⟨rfl,rfl,_⟩|h;·cases hl:look H i with|none=>rw[hl]at hb;exact absurd hb.1 (by simp)|some W=>rw[hl]at hb;simp only[Option.getD_some,zEe hb.1]
  ·exact zOt l H1 hb.2 i X Y h
def aO(f:FuncId)(aa:List AV)(ev:Operand->AV)(s:yW)(ι:List Nat)(H1:List yM)(nst:Nat)(res:AV)(b:Option Bool):Option (LA×List Ob):=bif fD ι&&inB s.H ι ι&&Nat.ble ι.length H1.length&&AV.numLB ι aa then match b with|none=>some ({tB ι s.nx s.ns (uW s.H ι ι) H1 nst res with ev:=ev},[.call f (uW s.H ι ι) (AV.renL (uV ι) kO aa) res H1 nst])|some b=>match(tB ι s.nx s.ns (uW s.H ι ι) H1 nst res).bit? with|some b0=>some ({tB ι s.nx s.ns (uW s.H ι ι) H1 nst res with ev:=ev,v:=.val (.bool b)},[.bit b0 b,.call f (uW s.H ι ι) (AV.renL (uV ι) kO aa) res H1 nst])|none=>none else none
def zOs(la:LA):LA:={la with rd:=la.rd++la.wr.map (λp=>(p.1,p.2.1)),wr:=[]}
def zEd(f:FuncId)(aa:List AV)(ev:Operand->AV)(s:yW)(ι:List Nat)(H1:List yM)(nst:Nat)(res:AV)(b:Option Bool):Option (LA×List Ob):=bif H1.isEmpty&&!ι.isEmpty&&Nat.beq nst 0 then match aO f aa ev s ι (uW s.H ι ι) nst res b with|some (la,ob)=>some (zOs la,ob)|none=>none else aO f aa ev s ι H1 nst res b
def gI(P:Program)(f:FuncId):Bool:=match P.funcs[f]? with|some fn=>!(fn.name=="runtime.NumGoroutine")&&!fn.body.isNone|none=>false
def zRU(P:Program)(pr:FuncId->List AV->yW->Option LA)(op:Op)(ev:Operand->AV)(s:yW)(os:List mS):Option (LA×List mS×List Ob):=match op with
 |.call {callee:=.value g,args,argTypes:=_}=>match ev g,os with
  |.clo f first caps,.call ι H1 nst res b::os=>bif gI P f then match zEd f (AV.frzL (first++args.toList.map ev++caps)) ev s ι H1 nst res b with|some (la,ob)=>some (la,os,ob)|none=>none else none|.clo f first caps,.callx ι H1 nst res b::os=>bif gI P f then match zEd f (first++args.toList.map ev++caps) ev s ι H1 nst res b with|some (la,ob)=>some (la,os,ob)|none=>none else none|.clo f first caps,.callk kp ι H1 nst res::os=>bif gI P f&&kp.all (λp=>Nat.blt p.1 ι.length)then match aO f (AV.frzL (first++args.toList.map ev++caps)) ev s ι H1 nst res none with|some (la,ob)=>some ({la with kp:=kp.map λp=>(ι.getD p.1 0,p.2)},os,.kp (uW s.H ι ι) H1 kp::ob)|none=>none else none|.clo f first caps,.no::os=>match pr f (first++args.toList.map ev++caps) s with|some la=>some ({la with ev:=ev},os,[])|none=>none
  |_,_=>none
 |op=>zHN P op ev s os
theorem V8{s:yW}{la:LA}(h:s.fit la){ev:Operand->AV}{v:AV}:s.fit {la with ev:=ev,v:=v}:=⟨h.rd,h.wr,h.al,h.lo,h.use,h.ns,h.rc,h.kp⟩
theorem xW.set{P:Program}{o:Oper}{la:LA}(h:xW P o la){v:AV}(hv:∀G w u,V G w la.v u->V G w v u):xW P o {la with v:=v}:=by intro G σ w a K Q hR hx hc hK;exact h G σ w a K Q hR hx ⟨hc.rd,hc.wr,hc.al,hc.use,hc.ns,hc.hole,hc.rc,hc.kp⟩ λu G' w' hE hR' hu=>hK u G' w' hE hR' (hv _ _ _ hu)
theorem Z5{P:Program}{args:Array Operand}{argTypes:Array TypeId}{x y:Operand}{t t2:TypeId}{ev:Operand->AV}{s:yW}(h1:args.toList=[x,y])(h2:argTypes.toList=[t,t2]):R2 P (.call {callee:=.builtin .append,args:=args,argTypes:=argTypes}) ev s=zEq P t t2 ev (ev x) (ev y) s:=by unfold R2;simp only[pop,h1,h2]
theorem zHO{P:Program}{t:TypeId}{x y:Operand}{ok:Bool}{ev:Operand->AV}{s:yW}:R2 P (.lookup t x y ok) ev s=kB P t ev (ev x) (ev y) ok s:=by unfold R2;simp only[pop]
theorem zBz{P:Program}{t:TypeId}{x y z:Operand}{ev:Operand->AV}{s:yW}:R2 P (.mapUpdate t x y z) ev s=rL P t ev (ev x) (ev y) (ev z) s:=by unfold R2;simp only[pop]
theorem zOr{P:Program}{x:Operand}{b:Bool}{ev:Operand->AV}{s:yW}:R2 P (.next x b) ev s=zBl ev (ev x) b s:=by unfold R2;simp only[pop]
theorem Z6{P:Program}{op:Op}{ev:Operand->AV}{s:yW}{a:AV}(h:pop P op ev=some a):R2 P op ev s=some {ev:=ev,v:=a}:=by unfold R2;rw[h]
theorem tP.weak{P:Program}{f:FuncId}{args:List AV}{la:LA}(h:tP P f (AV.frzL args) la):tP P f args la:=by intro dst type pos after guard g cargs argTypes first caps ev hg hargs;have h':=h dst type pos after guard g cargs argTypes (AV.frzL first) (AV.frzL caps) (λx=>(ev x).frz) (by simp only[hg,AV.frz]) (by rw[hargs,fJ,fJ,zEf]);intro G σ w a K Q hR hx hc hK;refine h' G σ w a K Q hR (λx hxm=>V.frz _ _ (hx x hxm)) ⟨hc.rd,hc.wr,hc.al,hc.use,hc.ns,hc.hole,hc.rc,hc.kp⟩ hK
theorem aP{s:yW}{ι:List Nat}{H1:List yM}{nst:Nat}{res:AV}(hb:inB s.H ι ι=true):s.fit (tB ι s.nx s.ns (uW s.H ι ι) H1 nst res):=⟨λi X h=>by simp[tB]at h,λi X Y h=>zOt ι H1 hb i X Y h,λi X h=>(zJB _ _ _ _ h).1,λh=>by simp[tB]at h,λk h=>by simp[tB]at h,λ_=>rfl,λi k v h=>by simp[tB]at h,λi k X Y h=>by simp[tB]at h⟩
theorem Z7{P:Program}{f:FuncId}{aa:List AV}{ev:Operand->AV}{s:yW}{ι:List Nat}{H1:List yM}{nst:Nat}{res:AV}{b:Option Bool}{la:LA}{ob:List Ob}(hf:gI P f=true)(h:aO f aa ev s ι H1 nst res b=some (la,ob))(hob:yR P ob):∃la0,la0.wr=(tB ι s.nx s.ns (uW s.H ι ι) H1 nst res).wr/\s.fit la0/\tP P f aa la0/\(∀G w u,V G w la0.v u->V G w la.v u)/\la={la0 with ev:=ev,v:=la.v}:=by unfold aO at h;cases hc:(fD ι&&inB s.H ι ι&&Nat.ble ι.length H1.length&&AV.numLB ι aa)with|false=>rw[hc]at h;cases h|true=>
 rw[hc]at h;simp only[cond_true]at h;simp only[Bool.and_eq_true]at hc;obtain⟨⟨⟨c1,c2⟩,c3⟩,c4⟩:=hc;have hlen:ι.length=(uW s.H ι ι).length:=(aN ι).symm;have key:CT P f (uW s.H ι ι) (AV.renL (uV ι) kO aa) res H1 nst->tP P f aa (tB ι s.nx s.ns (uW s.H ι ι) H1 nst res):=by
  intro hct;have hu:=uG.uni hct.tri hct.args hct.H0 hct.res hct.H1 ι hlen (by rw[<-hlen];exact Nat.le_of_ble_eq_true c3) (qV _ c1) s.nx s.ns;rw[qW _ c4]at hu;unfold gI at hf;split at hf
  ·rename_i fn hfn;simp only[Bool.and_eq_true,Bool.not_eq_true']at hf;exact tP.of hfn hf.1 hf.2 hu
  ·cases hf
 cases b with|none=>simp only[Option.some.injEq,Prod.mk.injEq]at h;obtain⟨rfl,rfl⟩:=h;exact⟨_,rfl,aP c2,key hob.1,λ_ _ _ e=>e,rfl⟩|some b=>
  simp only at h;split at h
  ·rename_i b0 hb;simp only[Option.some.injEq,Prod.mk.injEq]at h;obtain⟨rfl,rfl⟩:=h;have hb':b0=b:=hob.1;subst hb';refine⟨_,rfl,aP c2,key hob.2.1,λG w u e=>?_,rfl⟩;unfold LA.bit? at hb;split at hb
   ·rename_i b1 hv;cases hb;rw[hv]at e;exact e
   ·cases hb
  ·cases h
theorem zEc{H:Nat->Option yM}:∀(l:List (Nat×yM)),(∀p∈l,H p.1=some p.2)->gR H l=H
 |[],_=>rfl|p::l,h=>by
  simp only[gR];rw[zEc l λq hq=>h q (by simp[hq])];funext i;by_cases e:i=p.1;·subst e;rw[yH];exact(h p (by simp)).symm
  ·rw[xA _ _ e]
theorem xW.ro{P:Program}{o:Oper}{la:LA}(h:xW P o la)(hs:∀i X Y,(i,X,Y)∈la.wr->X=Y):xW P o (zOs la):=by
 intro G σ w a K Q hR hx hc hK;have hw:∀i X Y,(i,X,Y)∈la.wr->σ.H i=some X:=λi X Y h=>hc.rd i X (List.mem_append_right _ (List.mem_map.2 ⟨_,h,rfl⟩));have e:(zOs la).app σ=la.app σ:=by
  unfold LA.app zOs;have:gR σ.H (la.wr.map λp=>(p.1,p.2.2))=σ.H:=zEc _ λp hp=>by obtain⟨⟨i,X,Y⟩,hm,rfl⟩:=List.mem_map.1 hp;have:=hs i X Y hm;subst this;exact hw i X X hm
  simp only[this,List.map_nil,gR]
 refine h G σ w a K Q hR hx ⟨λi X hX=>hc.rd i X (List.mem_append_left _ hX),hw,hc.al,hc.use,hc.ns,hc.hole,hc.rc,λi k X Y _ h=>by rw[hs i X Y h]⟩ λu G' w' hE hR' hv=>hK u G' w' hE ?_ hv;rw[e];exact hR'
theorem zEb{r:Nat->Nat}:∀(ι:List Nat)(H:List yM)(i:Nat)(X Y:yM),(i,X,Y)∈J7 r kO ι H H->X=Y
 |[],_,_,_,_,h=>by simp[J7]at h|_::_,[],_,_,_,h=>by simp[J7]at h|a::ι,b::H,i,X,Y,h=>by
  simp only[J7,List.mem_cons,Prod.mk.injEq]at h;rcases h with⟨_,rfl,rfl⟩|h;·rfl
  ·exact zEb ι H i X Y h
theorem zOq(ns:Nat):cst ns 0=kO:=by
 funext k;unfold cst kO;have:Nat.blt k 0=false:=by cases h:Nat.blt k 0 with|false=>rfl|true=>rw[Nat.blt_eq]at h;omega
 rw[this];rfl
theorem zBf{P:Program}{f:FuncId}{aa:List AV}{ev:Operand->AV}{s:yW}{ι:List Nat}{H1:List yM}{nst:Nat}{res:AV}{b:Option Bool}{la:LA}{ob:List Ob}(hf:gI P f=true)(h:zEd f aa ev s ι H1 nst res b=some (la,ob))(hob:yR P ob):∃la0,s.fit la0/\tP P f aa la0/\(∀G w u,V G w la0.v u->V G w la.v u)/\la={la0 with ev:=ev,v:=la.v}:=by unfold zEd at h;cases hc:(H1.isEmpty&&!ι.isEmpty&&Nat.beq nst 0)with|false=>rw[hc]at h;obtain⟨la0,-,h1⟩:=Z7 hf h hob;exact⟨la0,h1⟩|true=>
 rw[hc]at h;simp only[cond_true]at h;simp only[Bool.and_eq_true]at hc;have hn:nst=0:=Nat.eq_of_beq_eq_true hc.2;subst hn;split at h
 ·rename_i la1 ob1 hx;simp only[Option.some.injEq,Prod.mk.injEq]at h;obtain⟨rfl,rfl⟩:=h;obtain⟨la0,hw,h1,h2,h3,h4⟩:=Z7 hf hx hob;have hs:∀i X Y,(i,X,Y)∈la0.wr->X=Y:=λi X Y hm=>by rw[hw]at hm;simp only[tB,zOq]at hm;exact zEb _ _ _ _ _ hm
  refine⟨zOs la0,⟨λi X hX=>?_,λi X Y hX=>(nomatch hX),h1.al,h1.lo,h1.use,h1.ns,h1.rc,λi k X Y _ h=>(nomatch h)⟩,?_,h3,?_⟩
  ·rcases List.mem_append.1 hX with hX|hX;·exact h1.rd i X hX
   ·obtain⟨⟨i',X',Y'⟩,hm,e⟩:=List.mem_map.1 hX;simp only[Prod.mk.injEq]at e;obtain⟨rfl,rfl⟩:=e;exact h1.wr _ _ _ hm
  ·intro dst type pos after guard g cargs argTypes first caps ev hg hargs;exact(h2 dst type pos after guard g cargs argTypes first caps ev hg hargs).ro hs
  ·rw[h4];rfl
 ·cases h
theorem zOp{P:Program}{f:FuncId}{aa:List AV}{ev:Operand->AV}{s:yW}{ι:List Nat}{H1:List yM}{nst:Nat}{res:AV}{b:Option Bool}{la:LA}{ob:List Ob}(hf:gI P f=true)(h:zEd f (AV.frzL aa) ev s ι H1 nst res b=some (la,ob))(hob:yR P ob):∃la0,s.fit la0/\tP P f aa la0/\(∀G w u,V G w la0.v u->V G w la.v u)/\la={la0 with ev:=ev,v:=la.v}:=by obtain⟨la0,h1,h2,h3⟩:=zBf hf h hob;exact⟨la0,h1,h2.weak,h3⟩
theorem Z8{r:Nat->Nat}{f:Nat->Option Nat}(X:yM)(k:Nat):pL (X.ren r f) k=(pL X k).map (AV.ren r f):=by cases X with
 |cells cs=>
  simp only[yM.ren,pL];have:∀(cs:List AV)(k:Nat),(AV.renL r f cs)[k]?=cs[k]?.map (AV.ren r f):=by intro cs;induction cs with|nil=>intro k;simp[AV.renL]|cons a l ih=>intro k;cases k with|zero=>simp[AV.renL]|succ k=>simp only[AV.renL,List.getElem?_cons_succ];exact ih k
  exact this cs k|obj o=>rfl|row cs=>rfl|dead=>rfl
theorem zHI.mem{H0 H1:List yM}:∀{l:List (Nat×Nat)},zHI H0 H1 l->∀p∈l,∃a,pL (H0.getD p.1 .dead) p.2=some a/\pL (H1.getD p.1 .dead) p.2=some a/\∀r f g,a.ren r f=a.ren r g
 |[],_,_,h=>by simp at h|q::l,hk,p,h=>by
  rcases List.mem_cons.1 h with rfl|h;·exact hk.1
  ·exact zHI.mem hk.2 p h
theorem zJF{r:Nat->Nat}{f:Nat->Option Nat}:∀(ι:List Nat)(H0 H1:List yM)(i:Nat)(X Y:yM),(i,X,Y)∈J7 r f ι H0 H1->∃j,j<ι.length/\ι.getD j 0=i/\X=(H0.getD j .dead).ren r kO/\Y=(H1.getD j .dead).ren r f
 |[],_,_,_,_,_,h=>by simp[J7]at h|_::_,[],_,_,_,_,h=>by simp[J7]at h|_::_,_::_,[],_,_,_,h=>by simp[J7]at h|a::ι,b::H0,c::H1,i,X,Y,h=>by
  simp only[J7,List.mem_cons,Prod.mk.injEq]at h;rcases h with⟨rfl,rfl,rfl⟩|h;·exact⟨0,by simp,rfl,rfl,rfl⟩
  ·obtain⟨j,h0,h1,h2,h3⟩:=zJF ι H0 H1 i X Y h;exact⟨j+1,by simpa using h0,by simpa using h1,by simpa using h2,by simpa using h3⟩
theorem zLA{P:Program}{f:FuncId}{aa:List AV}{ev:Operand->AV}{s:yW}{ι:List Nat}{H1:List yM}{nst:Nat}{res:AV}{la:LA}{ob:List Ob}{kp:List (Nat×Nat)}(hf:gI P f=true)(hb:kp.all (λp=>Nat.blt p.1 ι.length)=true)(h:aO f (AV.frzL aa) ev s ι H1 nst res none=some (la,ob))(hk:zHI (uW s.H ι ι) H1 kp)(hob:yR P ob):∃la0:LA,la={la0 with ev:=ev}/\s.fit {la0 with kp:=kp.map λp=>(ι.getD p.1 0,p.2)}/\tP P f aa {la0 with kp:=kp.map λp=>(ι.getD p.1 0,p.2)}:=by have h0:=h;clear h;unfold aO at h0;cases hc:(fD ι&&inB s.H ι ι&&Nat.ble ι.length H1.length&&AV.numLB ι (AV.frzL aa))with|false=>rw[hc]at h0;cases h0|true=>
 rw[hc]at h0;simp only[cond_true,Option.some.injEq,Prod.mk.injEq]at h0;have hc2:=hc;simp only[Bool.and_eq_true]at hc;obtain⟨⟨⟨c1,c2⟩,c3⟩,c4⟩:=hc;have hnd:=qV _ c1;obtain⟨e1,e2⟩:=h0;refine⟨tB ι s.nx s.ns (uW s.H ι ι) H1 nst res,e1.symm,?_,?_⟩
 ·have g:=aP (nst:=nst) (res:=res) (H1:=H1) c2;refine⟨g.rd,g.wr,g.al,g.lo,g.use,g.ns,g.rc,λi k X Y hm hw=>?_⟩;obtain⟨p,hp,e⟩:=List.mem_map.1 hm;simp only[Prod.mk.injEq]at e;obtain⟨rfl,rfl⟩:=e;have hw':(ι.getD p.1 0,X,Y)∈J7 (rM ι s.nx) (cst s.ns nst) ι (uW s.H ι ι) H1:=hw;obtain⟨j,j1,j2,rfl,rfl⟩:=zJF _ _ _ _ _ _ hw';have hl:p.1<ι.length:=by simpa using List.all_eq_true.1 hb p hp
  have hj:j=p.1:=by simp only[List.getD_eq_getElem?_getD,List.getElem?_eq_getElem j1,List.getElem?_eq_getElem hl,Option.getD_some]at j2;exact(List.getElem_inj hnd).1 j2
  subst hj;obtain⟨a,a1,a2,a3⟩:=hk.mem p hp;rw[Z8,Z8,a1,a2];exact congrArg some (a3 _ _ _)
 ·have hlen:ι.length=(uW s.H ι ι).length:=(aN ι).symm;subst e2;have hct:CT P f (uW s.H ι ι) (AV.renL (uV ι) kO (AV.frzL aa)) res H1 nst:=hob.1;have hu:=uG.uni hct.tri hct.args hct.H0 hct.res hct.H1 ι hlen (by rw[<-hlen];exact Nat.le_of_ble_eq_true c3) (qV _ c1) s.nx s.ns;rw[qW _ c4]at hu;unfold gI at hf;split at hf
  ·rename_i fn hfn;simp only[Bool.and_eq_true,Bool.not_eq_true']at hf;have hco:=(tP.of hfn hf.1 hf.2 hu).weak;intro dst type pos after guard g cargs argTypes first caps ev hg hargs G σ w a K Q hR hx hc hK;exact hco dst type pos after guard g cargs argTypes first caps ev hg hargs G σ w a K Q hR hx ⟨hc.rd,hc.wr,hc.al,hc.use,hc.ns,hc.hole,hc.rc,λi k X Y h=>by simp[tB]at h⟩ hK
  ·cases hf
theorem zEa{P:Program}{dst:Option Tmp}{t:TypeId}{x:Operand}{type:TypeId}{pos:String}{after:Array Edge}{guard:Option (Nat×Bool)}{ev:Operand->AV}{i off n:Nat}{r:AV}(hq:tsz P t=some (false,n))(he:ev x=.mp i off):xW P ⟨dst,.load t x,type,pos,after,guard⟩ {ev:=ev,rc:=[(i,off,r)],v:=r}:=by intro G σ w a K Q hR hx hc hK;obtain⟨X,e1,e2⟩:=hc.rc i off r (List.mem_singleton.2 rfl);cases X with
 |cells cs=>
  have hcs:cs[off]?=some r:=e2;have hd:qU (false,n) (cs.drop off)=some r:=by cases hdr:cs.drop off with|nil=>have:=List.getElem?_drop (xs:=cs) (i:=off) (j:=0);rw[hdr,Nat.add_zero,hcs]at this;cases this|cons c l=>have:=List.getElem?_drop (xs:=cs) (i:=off) (j:=0);rw[hdr,Nat.add_zero,hcs]at this;simp only[List.getElem?_cons_zero]at this;exact this
  have he':eop P (Oper.mk dst (.load t x) type pos after guard).op ev ⟨[(i,.cells cs)],0,[],0,[]⟩=some {ev:=ev,rd:=[(i,.cells cs)],v:=r}:=by
   have hl:look [(i,yM.cells cs)] i=some (.cells cs):=by simp[look]
   simp only[eop,hq,he,hl,hd]
  refine(zNO he').1 G σ w a K Q hR hx ⟨λj Y h=>?_,λi X Y h=>by simp at h,λi X h=>by simp at h,λk h=>by simp at h,λh=>by simp at h,λi h1 h2=>by simp at h2,λi k v h=>by simp at h,λi k X Y h=>by simp at h⟩ hK;simp only[List.mem_singleton,Prod.mk.injEq]at h;obtain⟨rfl,rfl⟩:=h;exact e1|_=>cases e2
theorem zVC{s:yW}{ev:Operand->AV}{v r:AV}{i k:Nat}{X:yM}(hX:look s.H i=some X)(hk:pL X k=some r):s.fit {ev:=ev,rc:=[(i,k,r)],v:=v}:=⟨λi X h=>by simp at h,λi X Y h=>by simp at h,λi X h=>by simp at h,λh=>by simp at h,λk h=>by simp at h,λh=>by simp at h,λj m u h=>by simp only[List.mem_singleton,Prod.mk.injEq]at h;obtain⟨rfl,rfl,rfl⟩:=h;exact⟨X,hX,hk⟩,λi k X Y h=>by simp at h⟩
theorem zHP{P:Program}{dst:Option Tmp}{t:TypeId}{x:Operand}{type:TypeId}{pos:String}{after:Array Edge}{guard:Option (Nat×Bool)}{ev:Operand->AV}{i off:Nat}{q:Bool×Nat}{cs:List AV}{r:AV}(hq:tsz P t=some q)(he:ev x=.mp i off)(hr:qU q (cs.drop off)=some r):xW P ⟨dst,.load t x,type,pos,after,guard⟩ {ev:=ev,rd:=[(i,.row cs)],v:=r}:=by refine xW.reads λG σ w a hR hx hrd=>?_;have hX:=hrd _ _ (List.mem_singleton.2 rfl);have hxx:=hx x (by simp[Op.operands]);rw[he]at hxx;simp only[V]at hxx;obtain⟨b,hb,hxe⟩:=hxx;obtain⟨_,vs,T,hh,hl⟩:=hR.blk _ b _ hb hX;obtain⟨u,hu,hv⟩:=J9 hq hh hl hr;exact⟨u,by simp[execOp,hxe,hu],hv⟩
theorem zYF{P:Program}{dst:Option Tmp}{t e:TypeId}{x y z:Operand}{type:TypeId}{pos:String}{after:Array Edge}{guard:Option (Nat×Bool)}{ev:Operand->AV}{i off n c sz:Nat}{k k':IntKind}{ie:TypeInfo}(ht:P.underlying t=some (.slice e))(hi:P.info? e=some ie)(hx:ev x=.ms i off n c sz)(hy:ev y=.val (.int k 0))(hz:ev z=.val (.int k' 0)):xW P ⟨dst,.slice t x none (some y) (some z),type,pos,after,guard⟩ {ev:=ev,v:=.sl [] 0 .full}:=by
 refine xW.reads λG σ w a hR hxs hrd=>?_;have h1:=hxs x (by simp[Op.operands]);have h2:=hxs y (by simp[Op.operands]);have h3:=hxs z (by simp[Op.operands]);rw[hx]at h1;rw[hy]at h2;rw[hz]at h3;simp only[V]at h1;have h1':∃p n' cap,a.eval x=.slice p n' cap:=by
  rcases h1 with⟨b,cap,-,-,o,hxe,-⟩|⟨-,-,p,hxe⟩;·exact⟨_,_,_,hxe⟩
  ·exact⟨_,_,_,hxe⟩
 obtain⟨p,n',cap,hxe⟩:=h1';have hb:=mX (P:=P) (w:=w) (G:=G) (isS:=true) (n:=0) (cap:=cap) (m:=0) (h:=0) (l:=0) (full:=true) (lo:=none) (hi:=some (.val (.int k 0))) (mx:=some (.val (.int k' 0))) (vlo:=none) (vhi:=some (a.eval y)) (vmx:=some (a.eval z)) (λ_ h=>by cases h) (λ_ h=>by cases h;exact⟨_,rfl,h2⟩) (λ_ h=>by cases h;exact⟨_,rfl,h3⟩) (λ_=>rfl) (λh=>by cases h) (λh=>by cases h) (Nat.zero_le _) rfl rfl rfl (by simp);have hs:(Instr.sliceBounds true n' cap none (some (a.eval y)) (some (a.eval z))).run P w=.ok (0,0,0) w:=by have:=hb.1;simpa[Instr.sliceBounds]using this
 refine⟨.slice p 0 0,?_,?_⟩;·simp[execOp,hxe,Instr.sliceAt,run_underlying ht,Instr.slice,hs,wB hi]
 ·simp only[V];exact⟨0,Nat.le_refl _,.inl ⟨by first|rfl|trivial,by first|rfl|trivial,by first|rfl|trivial,by simp[jY],trivial⟩⟩
theorem zEA{P:Program}{dst:Option Tmp}{t:TypeId}{x y:Operand}{type:TypeId}{pos:String}{after:Array Edge}{guard:Option (Nat×Bool)}{ev:Operand->AV}{i off:Nat}{ti:TypeInfo}{cs cs':List AV}(hi:P.info? t=some ti)(he:ev x=.mp i off)(c1:(ev y).sound=true)(c2:(rG (ev y)).length=ti.size)(c3:off+ti.size<=cs.length)(c4:splice cs off (rG (ev y))=cs'):xW P ⟨dst,.store t x y,type,pos,after,guard⟩ {ev:=ev,wr:=[(i,.row cs,.row cs')],v:=.val undef}:=by
 subst c4;refine xW.skip rfl λG σ w a hR hx hc=>?_;have hX:=hc.wr _ _ _ (List.mem_singleton.2 rfl);have hxx:V G w (ev x) (a.eval x):=hx x (by simp[Op.operands]);rw[he]at hxx;simp only[V]at hxx;obtain⟨b,hb,hxe⟩:=hxx;obtain⟨_,vs,T,hh,hl⟩:=hR.blk _ b _ hb hX;obtain⟨hyv,hy1⟩:=V.cells (a:=ev y) (hx y (by simp[Op.operands])) c1;have hyl:=VL.length _ _ hyv;have hvl:=hl.le;have hsz:(a.eval y).cells.size=ti.size:=by rw[<-c2,<-hyl];simp
 have hst:=run_storeCells_at P b off T (a.eval y).cells.toList 0 vs w hh (by simp only[Array.length_toList]at hvl⊢;omega) hy1;simp only[Nat.add_zero]at hst;have hlen:vs.size<=(vs.toList.take off++(a.eval y).cells.toList++vs.toList.drop (off+(a.eval y).cells.toList.length)).length:=by simp only[List.length_append,List.length_take,List.length_drop,Array.length_toList]at hvl⊢;omega
 refine⟨w.setRow b (vs.toList.take off++(a.eval y).cells.toList++vs.toList.drop (off+(a.eval y).cells.toList.length)).toArray,G,?_,(wV.setRow hR hb _ (λo T' e=>by rw[hh]at e;cases e;simpa using hlen)),?_⟩
 ·simp only[execOp,Sem.run_bind,hxe,Instr.storeAt,Instr.sureAddr,Sem.run_pure,Result.andThen_ok,storeVar,wB hi];rw[if_neg (by simp[hsz])];simp only[Result.andThen_ok,hst]
 ·rw[aJ];exact hR.setRowR hb (by rw[hX];simp) _ _ hlen hh (gT.splice hl hyv off (by omega))
theorem zLB{P:Program}{o:Oper}{ev:Operand->AV}{s:yW}{os os':List mS}{la:LA}{ob:List Ob}(h:zHN P o.op ev s os=some (la,os',ob))(hob:yR P ob):s.fit la/\xW P o la/\la.ev=ev:=by
 have base:∀{la0:LA}{v:AV},R2 P o.op ev s=some la0->(∀G w u,V G w la0.v u->V G w v u)->s.fit (la0.set v)/\xW P o (la0.set v)/\(la0.set v).ev=ev:=by intro la0 v ha hv;obtain⟨h1,h2⟩:=gY ha;exact⟨V8 (kC ha),h1.set hv,h2⟩
 unfold zHN at h;cases hask:zYE o.op with|false=>rw[hask]at h;simp only[cond_false,Option.map_eq_some_iff]at h;obtain⟨la0,ha,he⟩:=h;cases he;exact base ha λ_ _ _=>V.tidy|true=>
  rw[hask]at h;simp only[cond_true]at h;split at h
  ·simp only[Option.map_eq_some_iff]at h;obtain⟨la0,ha,he⟩:=h;cases he;exact base ha λ_ _ _=>V.tidy
  ·rename_i a _;simp only[Option.map_eq_some_iff]at h;obtain⟨la0,ha,he⟩:=h;cases he;exact base ha hob.1
  ·rename_i b _;split at h
   ·rename_i la0 ha;split at h
    ·rename_i b0 hb;cases h;have hb':b0=b:=hob.1;subst hb';unfold LA.bit? at hb;split at hb;·rename_i b1 hv;cases hb;exact base ha λG w u hu=>by rw[hv]at hu;exact hu
     ·cases hb
    ·cases h
   ·cases h
  ·rename_i a _;cases h;have ha:=Z6 (s:=s) hob.1;exact⟨kC ha,(gY ha).1,rfl⟩
  ·rename_i a _;cases h;obtain⟨a0,h1,h2⟩:=hob.1;subst h2;have ha:=Z6 (s:=s) h1;exact⟨V8 (kC ha),xW.set (gY ha).1 (λG w u hu=>V.frz _ _ hu),rfl⟩
  ·rename_i a _;split at h
   ·rename_i t x y ok hop;split at h
    ·rename_i i hx;split at h
     ·rename_i X hX;cases h;have ha:R2 P o.op ev s=some {ev:=ev,rd:=[(i,X)],v:=a}:=by rw[hop,zHO,hx];exact hob.1 ev i s hX
      exact⟨kC ha,gY ha⟩
     ·cases h
    ·cases h
   ·rename_i args argTypes hop;split at h
    ·rename_i x t h1 h2;split at h
     ·rename_i i hx;split at h
      ·rename_i X hX;cases h;obtain⟨⟨es,c,kt,et,rfl,hut,rfl⟩,_⟩:=hob;obtain⟨dst,op,type,pos,after,guard⟩:=o;simp only at hop;subst hop;obtain⟨l1⟩:=args;obtain⟨l2⟩:=argTypes;simp only at h1 h2;subst h1 h2;refine⟨⟨λj Y h=>by simp only[List.mem_singleton,Prod.mk.injEq]at h;obtain⟨rfl,rfl⟩:=h;exact hX,λi X Y h=>by simp at h,λi X h=>by simp at h,λh=>by simp at h,λk h=>by simp at h,λh=>by simp at h,λi k v h=>by simp at h,λi k X Y h=>by simp at h⟩,zLi hut hx,rfl⟩
      ·cases h
     ·cases h
    ·cases h
   ·cases h
  ·rename_i Y _;split at h
   ·rename_i t x y z hop;split at h
    ·rename_i i hx;split at h
     ·rename_i X hX;cases h;have ha:R2 P o.op ev s=some {ev:=ev,v:=.val undef,wr:=[(i,X,Y)]}:=by rw[hop,zBz,hx];exact hob.1 ev i s hX
      exact⟨kC ha,gY ha⟩
     ·cases h
    ·cases h
   ·cases h
  ·rename_i v Y _;split at h
   ·rename_i x hop;split at h
    ·rename_i i hx;split at h
     ·rename_i X hX;cases h;have ha:R2 P o.op ev s=some (zVA ev i X v Y):=by rw[hop,zOr,hx];exact hob.1 ev i s hX
      exact⟨kC ha,gY ha⟩
     ·cases h
    ·cases h
   ·cases h
  ·rename_i cs n _;split at h
   ·rename_i t l c hop;cases h;obtain⟨dst,op,type,pos,after,guard⟩:=o;simp only at hop;subst hop;refine⟨⟨λi X h=>by simp at h,λi X Y h=>by simp at h,λi X h=>by simp only[List.mem_singleton,Prod.mk.injEq]at h;exact Nat.le_of_eq h.1.symm,λh=>by simp at h,λk h=>by simp at h,λh=>by simp at h,λi k v h=>by simp at h,λi k X Y h=>by simp at h⟩,zHJ hob.1,rfl⟩
   ·rename_i t len parts hop;cases h;obtain⟨dst,op,type,pos,after,guard⟩:=o;simp only at hop;subst hop;refine⟨⟨λi X h=>by simp at h,λi X Y h=>by simp at h,λi X h=>by simp only[List.mem_singleton,Prod.mk.injEq]at h;exact Nat.le_of_eq h.1.symm,λh=>by simp at h,λk h=>by simp at h,λh=>by simp at h,λi k v h=>by simp at h,λi k X Y h=>by simp at h⟩,zHK hob.1,rfl⟩
   ·rename_i args argTypes hop;split at h
    ·rename_i x y t t2 h1 h2;split at h
     ·rename_i d m c sr es m2 z2 hdd hss;cases h;obtain⟨dst,op,type,pos,after,guard⟩:=o;simp only at hop;subst hop;obtain⟨l1⟩:=args;obtain⟨l2⟩:=argTypes;simp only at h1 h2;subst h1 h2;refine⟨⟨zJc hss,zJd hdd,λi X h=>by simp only[List.mem_singleton,Prod.mk.injEq]at h;exact Nat.le_of_eq h.1.symm,λh=>by simp at h,λk h=>by simp at h,λh=>by simp at h,λi k v h=>by simp at h,λi k X Y h=>by simp at h⟩,zJe hdd hss hob.1,rfl⟩
     ·cases h
    ·cases h
   ·cases h
  ·rename_i cs n _;split at h
   ·rename_i t len parts hop;cases h;obtain⟨dst,op,type,pos,after,guard⟩:=o;simp only at hop;subst hop;refine⟨⟨λi X h=>by simp at h,λi X Y h=>by simp at h,λi X h=>by simp only[List.mem_singleton,Prod.mk.injEq]at h;exact Nat.le_of_eq h.1.symm,λh=>by simp at h,λk h=>by simp at h,λh=>by simp at h,λi k v h=>by simp at h,λi k X Y h=>by simp at h⟩,R5 hob.1 (.inr rfl),rfl⟩
   ·cases h
  ·rename_i cs n _;split at h
   ·rename_i t len parts hop;cases h;obtain⟨dst,op,type,pos,after,guard⟩:=o;simp only at hop;subst hop;refine⟨⟨λi X h=>by simp at h,λi X Y h=>by simp at h,λi X h=>by simp only[List.mem_singleton,Prod.mk.injEq]at h;exact Nat.le_of_eq h.1.symm,λh=>by simp at h,λk h=>by simp at h,λh=>by simp at h,λi k v h=>by simp at h,λi k X Y h=>by simp at h⟩,R6 hob.1,rfl⟩
   ·rename_i args argTypes hop;split at h
    ·rename_i x y t t2 h1 h2;split at h
     ·rename_i i m mc z es m2 ow hx hy;split at h
      ·rename_i c0 hl;cases h;obtain⟨dst,op,type,pos,after,guard⟩:=o;simp only at hop;subst hop;obtain⟨l1⟩:=args;obtain⟨l2⟩:=argTypes;simp only at h1 h2;subst h1 h2;refine⟨⟨λi X h=>by simp at h,λi X Y h=>by simp only[List.mem_singleton,Prod.mk.injEq]at h;obtain⟨rfl,rfl,-⟩:=h;exact hl,λi X h=>by simp only[List.mem_singleton,Prod.mk.injEq]at h;exact Nat.le_of_eq h.1.symm,λh=>by simp at h,λk h=>by simp at h,λh=>by simp at h,λi k v h=>by simp at h,λi k X Y h=>by simp at h⟩,zNT hx hy hl hob.1,rfl⟩
      ·cases h
     ·cases h
    ·cases h
   ·cases h
  ·rename_i bs _;split at h
   ·rename_i st dt x hop;split at h
    ·rename_i i n c hx0;split at h
     ·rename_i cs hl;cases h;obtain⟨dst,op,type,pos,after,guard⟩:=o;simp only at hop;subst hop;exact⟨zCO hl,zHL hx0 hob.1,rfl⟩
     ·cases h
    ·cases h
   ·cases h
  ·rename_i cs n _;split at h
   ·rename_i args argTypes hop;split at h
    ·rename_i x y t t2 h1 h2;split at h
     ·rename_i d m c bs hdd hey;cases h;obtain⟨dst,op,type,pos,after,guard⟩:=o;simp only at hop;subst hop;obtain⟨l1⟩:=args;obtain⟨l2⟩:=argTypes;simp only at h1 h2;subst h1 h2;refine⟨⟨λi X h=>by simp at h,zJd hdd,λi X h=>by simp only[List.mem_singleton,Prod.mk.injEq]at h;exact Nat.le_of_eq h.1.symm,λh=>by simp at h,λk h=>by simp at h,λh=>by simp at h,λi k v h=>by simp at h,λi k X Y h=>by simp at h⟩,zNR hdd hey hob.1,rfl⟩
     ·cases h
    ·cases h
   ·cases h
  ·rename_i cs n _;split at h
   ·rename_i args argTypes hop;split at h
    ·rename_i x y t t2 h1 h2;split at h
     ·rename_i hx0;cases h;obtain⟨dst,op,type,pos,after,guard⟩:=o;simp only at hop;subst hop;obtain⟨l1⟩:=args;obtain⟨l2⟩:=argTypes;simp only at h1 h2;subst h1 h2;refine⟨⟨λi X h=>by simp at h,λi X Y h=>by simp at h,λi X h=>by simp only[List.mem_singleton,Prod.mk.injEq]at h;exact Nat.le_of_eq h.1.symm,λh=>by simp at h,λk h=>by simp at h,λh=>by simp at h,λi k v h=>by simp at h,λi k X Y h=>by simp at h⟩,zOu hx0 hob.1,rfl⟩
     ·cases h
    ·cases h
   ·cases h
  ·split at h
   ·rename_i args argTypes hop;split at h
    ·rename_i x y t t2 h1 h2;split at h
     ·rename_i d q1 m2 q2 hdd hss;cases h;obtain⟨⟨rfl,h0,e,ie,hut,hie⟩,_⟩:=hob;obtain⟨dst,op,type,pos,after,guard⟩:=o;simp only at hop;subst hop;obtain⟨l1⟩:=args;obtain⟨l2⟩:=argTypes;simp only at h1 h2;subst h1 h2;refine⟨⟨λi X h=>by simp at h,λi X Y h=>by simp at h,λi X h=>by simp at h,λh=>by simp at h,λk h=>by simp at h,λh=>by simp at h,λi k v h=>by simp at h,λi k X Y h=>by simp at h⟩,zLj hut hie hdd hss h0,rfl⟩
     ·cases h
    ·cases h
   ·cases h
  ·rename_i cs _;split at h
   ·rename_i args argTypes hop;split at h
    ·rename_i x y t t2 h1 h2;split at h
     ·rename_i i n c z hx;split at h
      ·rename_i c0 sr es n2 z2 hl hss;cases h;obtain⟨dst,op,type,pos,after,guard⟩:=o;simp only at hop;subst hop;obtain⟨l1⟩:=args;obtain⟨l2⟩:=argTypes;simp only at h1 h2;subst h1 h2;refine⟨⟨zJc hss,λi X Y h=>by simp only[List.mem_singleton,Prod.mk.injEq]at h;obtain⟨rfl,rfl,rfl⟩:=h;exact hl,λi X h=>by simp at h,λh=>by simp at h,λk h=>by simp at h,λh=>by simp at h,λi k v h=>by simp at h,λi k X Y h=>by simp at h⟩,zRN hx hss hob.1,rfl⟩
      ·cases h
     ·cases h
    ·cases h
   ·cases h
  ·split at h
   ·rename_i args argTypes hop;split at h
    ·rename_i x t h1 h2;split at h
     ·rename_i i off n c z hx;split at h
      ·rename_i c0 hl;cases h;obtain⟨⟨hlo,e,ie,zv,hut,hie,hz,hzs,hone⟩,_⟩:=hob;obtain⟨dst,op,type,pos,after,guard⟩:=o;simp only at hop;subst hop;obtain⟨l1⟩:=args;obtain⟨l2⟩:=argTypes;simp only at h1 h2;subst h1 h2;refine⟨⟨λi X h=>by simp at h,λi X Y h=>by simp only[List.mem_singleton,Prod.mk.injEq]at h;obtain⟨rfl,rfl,rfl⟩:=h;exact hl,λi X h=>by simp at h,λh=>by simp at h,λk h=>by simp at h,λh=>by simp at h,λi k v h=>by simp at h,λi k X Y h=>by simp at h⟩,zRO hut hie hz hzs hone hx hlo,rfl⟩
      ·cases h
     ·cases h
    ·cases h
   ·cases h
  ·split at h
   ·rename_i t x y z hop;split at h
    ·rename_i e i off n c sz k k' ht hx hy hz;split at h
     ·rename_i ie hi;cases h;obtain⟨dst,op,type,pos,after,guard⟩:=o;simp only at hop;subst hop;exact⟨⟨λi X h=>by simp at h,λi X Y h=>by simp at h,λi X h=>by simp at h,λh=>by simp at h,λk h=>by simp at h,λh=>by simp at h,λi k v h=>by simp at h,λi k X Y h=>by simp at h⟩,zYF ht hi hx hy hz,rfl⟩
     ·cases h
    ·cases h
   ·cases h
  ·rename_i a _;split at h
   ·rename_i t x hop;split at h
    ·rename_i q i off hq hx;split at h
     ·rename_i cs hX;cases h;obtain⟨dst,op,type,pos,after,guard⟩:=o;simp only at hop;subst hop;refine⟨⟨λi X h=>by simp only[List.mem_singleton,Prod.mk.injEq]at h;obtain⟨rfl,rfl⟩:=h;exact hX,λi X Y h=>by simp at h,λi X h=>by simp at h,λh=>by simp at h,λk h=>by simp at h,λh=>by simp at h,λi k v h=>by simp at h,λi k X Y h=>by simp at h⟩,zHP hq hx hob.1,rfl⟩
     ·cases h
    ·cases h
   ·cases h
  ·split at h
   ·rename_i t x hop;split at h
    ·rename_i n i off hq hx;split at h
     ·rename_i cs hX;split at h
      ·rename_i r hr;cases h;obtain⟨dst,op,type,pos,after,guard⟩:=o;simp only at hop;subst hop;exact⟨zVC hX hr,zEa hq hx,rfl⟩
      ·cases h
     ·cases h
    ·cases h
   ·cases h
  ·rename_i cs' _;split at h
   ·rename_i t x y hop;split at h
    ·rename_i ti i off hq hx;split at h
     ·rename_i cs hX;cases h;obtain⟨⟨h1,h2,h3,h4⟩,_⟩:=hob;obtain⟨dst,op,type,pos,after,guard⟩:=o;simp only at hop;subst hop;refine⟨⟨λi X h=>by simp at h,λi X Y h=>by simp only[List.mem_singleton,Prod.mk.injEq]at h;obtain⟨rfl,rfl,rfl⟩:=h;exact hX,λi X h=>by simp at h,λh=>by simp at h,λk h=>by simp at h,λh=>by simp at h,λi k v h=>by simp at h,λi k X Y h=>by simp at h⟩,zEA hq hx h1 h2 h3 h4,rfl⟩
     ·cases h
    ·cases h
   ·cases h
  ·rename_i es' n' _;split at h
   ·rename_i la0 ha;split at h
    ·rename_i cs len o hv;cases h;obtain⟨h1,h2⟩:=hob.1;subst h1 h2;exact base ha λG w u hu=>by rw[<-hv];exact V.tidy hu
    ·cases h
   ·cases h
  ·rename_i es' n' sz empty _;split at h
   ·rename_i args argTypes hop;split at h
    ·rename_i x y t t2 h1 h2;split at h
     ·rename_i es n o1 es2 n2 o2 hx hy;split at h
      ·rename_i la0 hla;cases h;have ha:R2 P o.op ev s=some la:=by rw[hop,Z5 h1 h2,hx,hy];show mG P t t2 ev (.sl es n o1) (.sl es2 n2 o2) s=some la;rw[hob.1];exact hla
       exact⟨kC ha,gY ha⟩
      ·cases h
     ·rename_i es n o1 bs hx hy;split at h
      ·rename_i la0 hla;cases h;have ha:R2 P o.op ev s=some la:=by rw[hop,Z5 h1 h2,hx,hy];show mY P t t2 ev (.sl es n o1) bs s=some la;rw[hob.1];exact hla
       exact⟨kC ha,gY ha⟩
      ·cases h
     ·cases h
    ·cases h
   ·cases h
  ·cases h
theorem zRV{P:Program}{pr:FuncId->List AV->yW->Option LA}(hp:rV P pr){o:Oper}{ev:Operand->AV}{s:yW}{os os':List mS}{la:LA}{ob:List Ob}(h:zRU P pr o.op ev s os=some (la,os',ob))(hob:yR P ob):s.fit la/\xW P o la/\la.ev=ev:=by
 obtain⟨dst,op,type,pos,after,guard⟩:=o;have h':zRU P pr op ev s os=some (la,os',ob):=h;clear h;unfold zRU at h';split at h'
 ·rename_i g args argTypes;split at h';·rename_i f first caps ι H1 nst res b os1 hg;cases hf:gI P f with|false=>rw[hf]at h';cases h'|true=>
    rw[hf]at h';simp only[cond_true]at h';split at h';·rename_i la1 ob1 hx;cases h';obtain⟨la0,h1,h2,h3,h4⟩:=zOp hf hx hob;have h5:=h2 dst type pos after guard g args argTypes first caps ev hg rfl;rw[h4];exact⟨V8 h1,xW.set h5 (v:=la.v) h3,rfl⟩
    ·cases h'
  ·rename_i f first caps ι H1 nst res b os1 hg;cases hf:gI P f with|false=>rw[hf]at h';cases h'|true=>
    rw[hf]at h';simp only[cond_true]at h';split at h'
    ·rename_i la1 ob1 hx;cases h';obtain⟨la0,h1,h2,h3,h4⟩:=zBf hf hx hob;have h5:=h2 dst type pos after guard g args argTypes first caps ev hg rfl;rw[h4];exact⟨V8 h1,xW.set h5 (v:=la.v) h3,rfl⟩
    ·cases h'
  ·rename_i f first caps kp ι H1 nst res os1 hg;cases hf:(gI P f&&kp.all (λp=>Nat.blt p.1 ι.length))with|false=>rw[hf]at h';cases h'|true=>
    rw[hf]at h';simp only[cond_true]at h';rw[Bool.and_eq_true]at hf;split at h'
    ·rename_i la1 ob1 hx;cases h';obtain⟨la0,rfl,h1,h2⟩:=zLA hf.1 hf.2 hx hob.1 hob.2;exact⟨⟨h1.rd,h1.wr,h1.al,h1.lo,h1.use,h1.ns,h1.rc,h1.kp⟩,h2 dst type pos after guard g args argTypes first caps ev hg rfl,rfl⟩
    ·cases h'
  ·rename_i f first caps os1 hg;split at h'
   ·rename_i la0 hla;cases h';obtain⟨q1,q2⟩:=hp _ _ _ _ hla;exact⟨⟨q1.rd,q1.wr,q1.al,q1.lo,q1.use,q1.ns,q1.rc,q1.kp⟩,q2 dst type pos after guard g args argTypes first caps ev hg rfl,rfl⟩
   ·cases h'
  ·cases h'
 ·exact zLB h' hob
def zUP(P:Program)(pr:FuncId->List AV->yW->Option LA)(ops:Array Oper)(env:List AV)(s:yW)(os:List mS)(o:Oper):Option (Option LA×List AV×yW×List mS×List Ob):=match bT ops env o with
 |some false=>some (none,eset env o.dst (.val undef),s,os,[])|some true=>match zRU P pr o.op (aev env) s os with|some (la,os,ob)=>some (some la,eset env o.dst la.v,s.app la,os,ob)|none=>none
 |none=>none
def bJ(P:Program)(pr:FuncId->List AV->yW->Option LA)(ops:Array Oper):List Oper->Nat->List AV->yW->List mS->Option (List (Nat×Option LA)×List AV×yW×List mS×List Ob)|[],_,env,s,os=>some ([],env,s,os,[])|o::l,i,env,s,os=>match zUP P pr ops env s os o with
 |some (la,env1,s1,os1,ob1)=>match bJ P pr ops l (i+1) env1 s1 os1 with|some (r,env2,s2,os2,ob2)=>some ((i,la)::r,env2,s2,os2,ob1++ob2)|none=>none
 |none=>none
theorem V9{P:Program}{pr:FuncId->List AV->yW->Option LA}(hp:rV P pr){ops:Array Oper}:∀(l:List Oper)(i:Nat)(env:List AV)(s:yW)(os:List mS)(r:List (Nat×Option LA))(env':List AV)(s':yW)(os':List mS)(ob:List Ob),(∀k o,l[k]?=some o->ops[i+k]?=some o)->bJ P pr ops l i env s os=some (r,env',s',os',ob)->yR P ob->kY s s'/\r.map (·.1)=List.range' i l.length/\∀(σ₀:wT)(b:Nat),s.On σ₀ b->(∀j,s.nx<=j->j<s'.nx->σ₀.H j=none)->s'.On σ₀ b/\kN P ops r ⟨env,yX σ₀ s⟩ ⟨env',yX σ₀ s'⟩
 |[],i,env,s,os,r,env',s',os',ob,_,h,_=>by simp only[bJ,Option.some.injEq,Prod.mk.injEq]at h;obtain⟨rfl,rfl,rfl,rfl,rfl⟩:=h;exact⟨kY.refl _,rfl,λσ₀ b ho _=>⟨ho,rfl⟩⟩|o::l,i,env,s,os,r,env',s',os',ob,hl,h,hob=>by
  simp only[bJ]at h;split at h
  ·rename_i la env1 s1 os1 ob1 hst;split at h
   ·rename_i r' env2 s2 os2 ob2 hr;cases h;obtain⟨hob1,hob2⟩:=yR.append hob;have h0:ops[i]?=some o:=by have:=hl 0 o rfl;simpa using this
    have step:kY s s1/\∀(σ₀:wT)(b:Nat),s.On σ₀ b->(∀j,s.nx<=j->j<s1.nx->σ₀.H j=none)->s1.On σ₀ b/\pZ P ops i la ⟨env,yX σ₀ s⟩ ⟨env1,yX σ₀ s1⟩:=by
     unfold zUP at hst;split at hst
     ·rename_i hw;cases hst;exact⟨kY.refl _,λσ₀ b ho _=>⟨ho,o,h0,hw,rfl⟩⟩
     ·rename_i hw;split at hst
      ·rename_i la' os1' ob1' hla;cases hst;obtain⟨f1,f2,f3⟩:=zRV hp hla hob1;refine⟨kY.app f1,λσ₀ b ho hfree=>⟨On.app f1 ho,o,h0,hw,f2,λx _=>by rw[f3],yW.can f1 ho hfree,?_⟩⟩;rw[zOz f1 ho]
      ·cases hst
     ·cases hst
    obtain⟨q1,q2,q3⟩:=V9 hp l (i+1) env1 s1 os1 r' _ _ _ _ (λk o e=>by have:=hl (k+1) o (by simpa using e);rw[<-this];congr 1;omega) hr hob2;refine⟨step.1.trans q1,by simp[List.range'_succ,q2],λσ₀ b ho hfree=>?_⟩;obtain⟨o1,a1⟩:=step.2 σ₀ b ho (λj h1 h2=>hfree j h1 (Nat.lt_of_lt_of_le h2 q1.nx));obtain⟨o2,a2⟩:=q3 σ₀ b o1 (λj h1 h2=>hfree j (Nat.le_trans step.1.nx h1) h2);exact⟨o2,_,a1,a2⟩
   ·cases h
  ·cases h
theorem zEB{P:Program}{pr:FuncId->List AV->yW->Option LA}(hp:rV P pr)(hm:P.follows .mixedOrders=true){ops:Array Oper}{id:Nat}{draw:Bool}{env env':List AV}{s s':yW}{os os':List mS}{r:List (Nat×Option LA)}{ob:List Ob}{Q:AX->List AV->yW->Prop}(h:bJ P pr ops ops.toList 0 env s os=some (r,env',s',os',ob))(hd:(!draw||(fB ops&&R3 ops (zCL ops.toList []) r))=true)(hob:yR P ob)(hQ:Q .normal env' s'):Ev P (.region id ops draw) env s Q:=by
 intro ho;obtain⟨_,q2,q3⟩:=V9 hp ops.toList 0 env s os r _ _ _ _ (λk o e=>by simpa using e) h hob;obtain⟨o1,r1⟩:=q3 (vW 0) 0 ho (λ_ _ _=>rfl);have q2':r.map (·.1)=List.range ops.size:=by rw[q2,List.range_eq_range'];simp
 cases draw with|false=>exact Cw.region r1 q2' ⟨_,_,rfl,o1,hQ⟩|true=>simp only[Bool.not_true,Bool.false_or,Bool.and_eq_true]at hd;exact Cw.draw hm hd.1 hd.2 r1 q2' ⟨_,_,rfl,o1,hQ⟩
def reown(k sz:Nat):AV->Option AV
 |.sl es n .full=>match es,n with|[],0=>some (.sl [] 0 (.st k sz))|_,_=>none
 |.sl es n .nl=>some (.sl es n (.st k sz))|_=>none
def yW.more(s:yW):yW:={s with own:=s.ns::s.own,ns:=s.ns+1}
def wX:List (Nat×yM)->Nat->yM->List (Nat×yM)|[],_,_=>[]|p::l,i,X=>bif Nat.beq i p.1 then(p.1,X)::l else p::wX l i X
theorem qX:∀(l:List (Nat×yM))(i j:Nat)(X Y:yM),look l i=some Y->look (wX l i X) j=if j=i then some X else look l j|[],_,_,_,_,h=>by cases h|p::l,i,j,X,Y,h=>by simp only[look]at h;simp only[wX];cases hb:Nat.beq i p.1 with
 |true=>
  have:=Nat.eq_of_beq_eq_true hb;subst this;simp only[cond_true,look];by_cases e:j=p.1;·subst e;simp
  ·rw[if_neg e,oH e];rfl|false=>
  rw[hb]at h;have ih:=qX l i j X Y h;simp only[cond_false,look];by_cases e:j=p.1
  ·subst e;have hne:p.1≠i:=by rintro rfl;simp at hb
   rw[if_neg hne];simp
  ·rw[oH e];simp only[cond_false];exact ih
mutual def AV.mv(i j:Nat):AV->AV|.val v=>.val v|.agg cs=>.agg (AV.mvL i j cs)|.tup cs=>.tup (AV.mvL i j cs)|.sl es n o=>.sl es n o|.ip es=>.ip es|.mp k off=>.mp k off|.ms k off n c z=>.ms (bif Nat.beq k i then j else k) off n c z|.obj k=>.obj k|.clo f fs cs=>.clo f fs cs def AV.mvL(i j:Nat):List AV->List AV|[]=>[]|a::l=>AV.mv i j a::AV.mvL i j l end
mutual theorem V.mv{G G':Gh}{w w':World}{i j:Nat}(hE:wV G w G' w')(hj:(∀b,G.ρ i=some b->G'.ρ j=some b)/\(G.N i->G'.N j)):∀(a:AV)(u:Value),V G w a u->V G' w' (a.mv i j) u
 |.val v,u,hv=>by simpa only[V,AV.mv]using hv|.agg cs,u,hv=>by simp only[V,AV.mv]at hv⊢;obtain⟨vs,rfl,hl⟩:=hv;exact⟨vs,rfl,VL.mv hE hj cs vs hl⟩|.tup cs,u,hv=>by simp only[V,AV.mv]at hv⊢;obtain⟨vs,rfl,hl⟩:=hv;exact⟨vs,rfl,VL.mv hE hj cs vs hl⟩|.sl es n o,u,hv=>by simpa only[AV.mv]using V.mono hE _ _ hv|.ip es,u,hv=>by simpa only[AV.mv]using V.mono hE _ _ hv|.mp k off,u,hv=>by simpa only[AV.mv]using V.mono hE _ _ hv|.obj k,u,hv=>by simpa only[AV.mv]using V.mono hE _ _ hv|.clo f fs cs,u,hv=>by simpa only[AV.mv]using V.mono hE _ _ hv|.ms k off n c z,u,hv=>by simp only[AV.mv];cases hb:Nat.beq k i with|false=>exact V.mono hE _ _ hv|true=>
  have:=Nat.eq_of_beq_eq_true hb;subst this;simp only[V,cond_true]at hv⊢;rcases hv with⟨b,cap,h1,h2,o,h3,h4⟩|⟨h1,h2,h3⟩;·exact .inl ⟨b,cap,hj.1 b h1,h2,o,h3,h4.imp (λq=>⟨q.1,hE.room _ _ _ h1 q.2⟩) id⟩
  ·exact .inr ⟨h1,hj.2 h2,h3⟩theorem VL.mv{G G':Gh}{w w':World}{i j:Nat}(hE:wV G w G' w')(hj:(∀b,G.ρ i=some b->G'.ρ j=some b)/\(G.N i->G'.N j)):∀(as0:List AV)(us:List Value),VL G w as0 us->VL G' w' (AV.mvL i j as0) us
 |[],[],_=>by simp only[AV.mvL,VL]|a::as0,u::us,hv=>by simp only[VL,AV.mvL]at hv⊢;exact⟨V.mv hE hj a u hv.1,VL.mv hE hj as0 us hv.2⟩|[],_::_,hv=>by simp only[VL]at hv|_::_,[],hv=>by simp only[VL]at hv end
def yM.mv(i j:Nat):yM->yM|.cells cs=>.cells (AV.mvL i j cs)|.obj o=>.obj o|.row cs=>.row cs|.dead=>.dead
theorem yM.void_mv{i j:Nat}{X:yM}(h:X.void):(X.mv i j).void:=by cases X with|cells cs=>exact h.elim|obj o=>exact h.elim|row cs=>exact h|dead=>trivial
def K3(i j:Nat):List (Nat×yM)->List (Nat×yM)|[]=>[]|p::l=>(p.1,bif Nat.beq p.1 i then .dead else p.2.mv i j)::K3 i j l
theorem fK(i j:Nat):∀(l:List (Nat×yM))(k:Nat),look (K3 i j l) k=(look l k).map λX=>if k=i then .dead else X.mv i j|[],_=>rfl|p::l,k=>by simp only[K3,look];cases hb:Nat.beq k p.1 with|false=>simp only[cond_false];exact fK i j l k|true=>
 have:=Nat.eq_of_beq_eq_true hb;subst this;simp only[cond_true,Option.map_some];by_cases e:p.1=i;·rw[if_pos e,e];simp
 ·rw[if_neg e];have:Nat.beq p.1 i=false:=oH e;rw[this];rfl
def yW.mv(s:yW)(i:Nat)(cs:List AV):yW:={s with H:=(s.nx,.row cs)::K3 i s.nx s.H,nx:=s.nx+1}
theorem yK.mv{G:Gh}{s:yW}{w:World}(ho:s.Ok)(h:yK G (yX (vW 0) s) w){i:Nat}{cs:List AV}(hX:Ab.look s.H i=some (.row cs)):∃G',wV G w G' w/\((∀b,G.ρ i=some b->G'.ρ s.nx=some b)/\(G.N i->G'.N s.nx))/\yK G' (yX (vW 0) (s.mv i cs)) w:=by
 have hX':(yX (vW 0) s).H i=some (.row cs):=by rw[xV];exact hX
 have hn:Ab.look s.H s.nx=none:=by cases hl:Ab.look s.H s.nx with|none=>rfl|some X=>exact absurd (ho.H _ _ hl) (Nat.lt_irrefl _)
 have hn':(yX (vW 0) s).H s.nx=none:=by rw[xV];exact hn
 have hnew:∃G',wV G w G' w/\((∀b,G.ρ i=some b->G'.ρ s.nx=some b)/\(G.N i->G'.N s.nx))/\(∀c,G'.ρ i=some c->G'.ρ s.nx=some c)/\(G'.N i->G'.N s.nx)/\yK G' ⟨up (up (yX (vW 0) s).H i .dead) s.nx (.row cs),(yX (vW 0) s).own,(yX (vW 0) s).ns⟩ w:=by cases hb:G.ρ i with
  |some b=>
   obtain⟨hF,hblk⟩:=h.blk i b _ hb hX';have hE0:wV G w (G.addρ s.nx b) w:=⟨λ_ _ e=>gU (((h.dom s.nx).2.1 hn').1) e,λ_ _ e=>e,λ_ _ e=>e,λ_ _ _=>rfl,rfl,rfl,λ_ _ e=>.inl e,λ_ _ _ _ r=>r,λ_ e=>e⟩;have hZ:vN (G.addρ s.nx b) w b (.row cs):=by obtain⟨vs,T,h1,h2⟩:=hblk;exact⟨vs,T,h1,h2.imp (VL.mono hE0 _)⟩
   obtain⟨q1,q2⟩:=h.renew hX' (by simp) hb hn' hZ;have hNi:¬G.N i:=h.ρN hb;refine⟨_,q1,⟨λc hc=>by cases hc;exact yH _ _ _,λe=>absurd e hNi⟩,λc hc=>?_,λe=>absurd e hNi,q2⟩;have:(G.addρ s.nx b).ρ i=some b:=hE0.ρ i b hb;rw[this]at hc;cases hc;exact yH _ _ _|none=>
   have hNi:G.N i:=((h.dom i).1 hb).resolve_right (by rw[hX'];simp);have hcs:=yM.void_row (h.Nvoid hNi hX');subst hcs;have hB:=h.bury hX';have hj:(⟨up (yX (vW 0) s).H i .dead,(yX (vW 0) s).own,(yX (vW 0) s).ns⟩:wT).H s.nx=none:=by show up _ i _ s.nx=none;rw[xA _ _ (λe=>by rw[e]at hn';rw[hX']at hn';cases hn')];exact hn'
   exact⟨_,wV.addN G w s.nx,⟨λc hc=>(by cases hc),λ_=>.inr rfl⟩,λc hc=>(by rw[show(G.addN s.nx).ρ i=G.ρ i from rfl,hb]at hc;cases hc),λ_=>.inr rfl,hB.nilrow hj⟩
 obtain⟨G',q1,hj,hjj,hjN,q2⟩:=hnew;refine⟨G',q1,hj,?_⟩;have hH:∀k,(yX (vW 0) (s.mv i cs)).H k=((⟨up (up (yX (vW 0) s).H i .dead) s.nx (.row cs),(yX (vW 0) s).own,(yX (vW 0) s).ns⟩:wT).H k).map λX=>if k=s.nx then X else X.mv i s.nx:=by
  intro k;rw[xV];show Ab.look ((s.nx,yM.row cs)::K3 i s.nx s.H) k=(up (up (yX (vW 0) s).H i .dead) s.nx (.row cs) k).map _;simp only[Ab.look];by_cases e:k=s.nx;·subst e;rw[yH];simp
  ·have hbq:Nat.beq k s.nx=false:=oH e;rw[hbq,xA _ _ e];simp only[cond_false,if_neg e];rw[fK];by_cases e2:k=i;·subst e2;rw[yH,hX];simp[yM.mv]
   ·rw[xA _ _ e2,xV];simp only[if_neg e2]
 have hdd:∀k,(⟨up (up (yX (vW 0) s).H i .dead) s.nx (.row cs),(yX (vW 0) s).own,(yX (vW 0) s).ns⟩:wT).H k=some .dead->(yX (vW 0) (s.mv i cs)).H k=some .dead:=λk hk=>by rw[hH,hk];simp[yM.mv]
 refine⟨λk=>?_,?_,λk l c hk hl=>(q2.inj k l c hk hl).imp id (Or.imp (hdd k) (hdd l)),λk c X hk hX=>?_,q2.live,q2.τns,q2.own,q2.ownd,q2.below,q2.base⟩
 ·rw[hH];refine(q2.dom k).map λX hX=>?_;split;·exact hX
  ·exact yM.void_mv hX
 ·obtain⟨N,hN⟩:=q2.fin;exact⟨N,λk hk=>by rw[hH,hN k hk];rfl⟩
 ·rw[hH]at hX;cases hY:(⟨up (up (yX (vW 0) s).H i .dead) s.nx (.row cs),(yX (vW 0) s).own,(yX (vW 0) s).ns⟩:wT).H k with|none=>rw[hY]at hX;cases hX|some Y=>
   rw[hY]at hX;simp only[Option.map_some,Option.some.injEq]at hX;obtain⟨p1,p2⟩:=q2.blk k c Y hk hY;refine⟨p1,?_⟩;split at hX;·subst hX;exact p2
   ·subst hX;cases Y with|cells ds=>obtain⟨vs,T,h1,h2⟩:=p2;exact⟨vs,T,h1,h2.imp λus=>VL.mv (wV.refl _ _) ⟨hjj,hjN⟩ _ us⟩|obj o=>exact p2|row ds=>exact p2|dead=>exact p2
theorem zYG{s:yW}(h:s.Ok)(i:Nat)(cs:List AV):(s.mv i cs).Ok:=by refine⟨λk X hk=>?_,h.own,h.fr,Nat.zero_le _⟩;have hk':look ((s.nx,yM.row cs)::K3 i s.nx s.H) k=some X:=hk;show k<s.nx+1;simp only[look]at hk';cases hb:Nat.beq k s.nx with|true=>have:=Nat.eq_of_beq_eq_true hb;omega|false=>rw[hb]at hk';simp only[cond_false]at hk';rw[fK]at hk';cases hl:look s.H k with|none=>rw[hl]at hk';cases hk'|some Y=>have:=h.H k Y hl;omega
def restamp0(it:Option Nat×Nat×Nat)(env:List AV)(s:yW):Option (List AV×yW):=match it with
 |(some i,_,0)=>match look s.H i with|some (.row cs)=>some (AV.mvL i s.nx env,s.mv i cs)|_=>none
 |(none,t,sz)=>match env[t]? with
  |some a=>match reown s.ns sz a with|some a'=>some (env.set t a',s.more)|none=>none
  |none=>none
 |(some b,c,sz)=>match look s.H b with
  |some (.cells cs)=>match cs[c]? with
   |some a=>match reown s.ns sz a with|some a'=>some (env,{s.more with H:=wX s.H b (.cells (cs.set c a'))})|none=>none
   |none=>none
  |_=>none
def zLC:AV->Bool|.sl [] 0 .nl=>true|.sl [] 0 .full=>true|_=>false
def yW.nilrow(s:yW):yW:={s with H:=(s.nx,.row [])::s.H,nx:=s.nx+1}
def nilcell(it:Option Nat×Nat×Nat)(env:List AV)(s:yW):Option (List AV×yW):=match it with
 |(none,t,sz)=>match env[t]? with|some a=>bif zLC a then some (env.set t (.ms s.nx 0 0 0 (sz-4096)),s.nilrow)else none|none=>none
 |(some b,c,sz)=>match look s.nilrow.H b with
  |some (.cells cs)=>match cs[c]? with|some a=>bif zLC a then some (env,{s.nilrow with H:=wX s.nilrow.H b (.cells (cs.set c (.ms s.nx 0 0 0 (sz-4096))))})else none|none=>none
  |_=>none
def frzU:Nat->List AV->List AV|0,l=>l|_,[]=>[]|k+1,a::l=>a.frz::frzU k l
theorem VL.frzU{G:Gh}{w:World}:∀(k:Nat)(as0:List AV)(us:List Value),VL G w as0 us->VL G w (Ab.frzU k as0) us|0,_,_,h=>h|_+1,[],_,h=>h|k+1,a::l,us,h=>by cases us with|nil=>simp only[VL]at h|cons u us=>simp only[VL]at h;simp only[Ab.frzU,VL];exact⟨V.frz _ _ h.1,VL.frzU k l us h.2⟩
def retell(it:Option Nat×Nat×Nat)(env:List AV)(s:yW):Option (List AV×yW):=match it with
 |(some b,0,_)=>match look s.H b with|some (.row (x::cs))=>some (env,{s with H:=wX s.H b (.cells (x::cs))})|_=>none
 |(some b,1,_)=>match look s.H b with|some (.cells (x::cs))=>some (env,{s with H:=wX s.H b (.row (AV.frzL (x::cs)))})|_=>none
 |(some b,k+2,_)=>match look s.H b with|some (.cells (x::cs))=>some (env,{s with H:=wX s.H b (.row (frzU (k+2) (x::cs)))})|_=>none
 |_=>none
def restamp(it:Option Nat×Nat×Nat)(env:List AV)(s:yW):Option (List AV×yW):=bif Nat.ble 8192 it.2.2 then retell it env s else bif Nat.ble 4096 it.2.2 then nilcell it env s else restamp0 it env s
def restamps:List (Option Nat×Nat×Nat)->List AV->yW->Option (List AV×yW)|[],env,s=>some (env,s)|it::l,env,s=>match restamp it env s with|some (env',s')=>restamps l env' s'|none=>none
theorem V.reown{G:Gh}{w:World}{k sz:Nat}{a a':AV}{u:Value}(h:Ab.reown k sz a=some a')(hτ:∃q,G.τ k=some q)(hv:V G w a u):V G w a' u:=by
 unfold Ab.reown at h;split at h
 ·split at h
  ·cases h;simp only[V]at hv⊢;obtain⟨cap,hc,⟨_,_,q3,q4,_⟩|⟨b,off,q1,q2,q3⟩⟩:=hv;·exact⟨cap,hc,.inl ⟨trivial,trivial,q3,q4,hτ⟩⟩
   ·refine⟨cap,hc,.inr ⟨b,off,q1,q2,hτ,.inl ⟨rfl,q3⟩⟩⟩
  ·cases h
 ·cases h;simp only[V]at hv⊢;obtain⟨cap,hc,⟨q1,q2,q3,q4,_⟩|⟨b,off,q1,q2,q3⟩⟩:=hv;·exact⟨cap,hc,.inl ⟨q1,q2,q3,q4,hτ⟩⟩
  ·exact q3.elim
 ·cases h
theorem VL.set'{G:Gh}{w:World}:∀(as0:List AV)(us:List Value),VL G w as0 us->∀(i:Nat)(a a':AV),as0[i]?=some a->(∀u,V G w a u->V G w a' u)->VL G w (as0.set i a') us
 |[],[],_,i,a,a',h,_=>by simp at h|x::as0,y::us,h,i,a,a',ha,hq=>by simp only[VL]at h;cases i with|zero=>simp at ha;subst ha;simp only[List.set_cons_zero,VL];exact⟨hq _ h.1,h.2⟩|succ i=>simp at ha;simp only[List.set_cons_succ,VL];exact⟨h.1,VL.set' as0 us h.2 i a a' ha hq⟩
 |[],_::_,h,_,_,_,_,_=>by simp only[VL]at h|_::_,[],h,_,_,_,_,_=>by simp only[VL]at h
theorem wV.more{G:Gh}{s:yW}{w:World}(hR:yK G (yX (vW 0) s) w):wV G w (G.addτ s.ns (0,1,0)) w:=⟨λ_ _ h=>h,λk r h=>gU (hR.τns s.ns (Nat.le_refl _)) h,λ_ _ h=>h,λ_ _ _=>rfl,rfl,rfl,λ_ _ h=>.inl h,λ_ _ _ _ r=>r,λ_ e=>e⟩
theorem yK.more{G:Gh}{s:yW}{w:World}(hR:yK G (yX (vW 0) s) w):yK (G.addτ s.ns (0,1,0)) (yX (vW 0) s.more) w:=by
 have hE:=wV.more hR;have hold:∀k,(yX (vW 0) s.more).own k=true->k=s.ns\/(k≠s.ns/\(yX (vW 0) s).own k=true/\(G.addτ s.ns (0,1,0)).τ k=G.τ k):=by
  intro k hk;by_cases e:k=s.ns;·exact .inl e
  ·refine .inr ⟨e,?_,xA _ _ e⟩;rw[sT]at hk⊢;simp only[yW.more,List.any_cons,Bool.or_eq_true]at hk;exact hk.resolve_left (λh=>e (Nat.eq_of_beq_eq_true h))
 have hnew:(G.addτ s.ns (0,1,0)).τ s.ns=some (0,1,0):=yH _ _ _;refine⟨hR.dom,hR.fin,hR.inj,λi b X hi hX=>?_,hR.live,λk hk=>?_,λk hk=>?_,λk k' b f t f' t' hk hk' h1 h2 l1 l2=>?_,hR.below,hR.base⟩
 ·obtain⟨q1,q2⟩:=hR.blk i b X hi hX;exact⟨q1,q2.mono hE rfl⟩
 ·have hk':s.ns+1<=k:=hk;show up G.τ s.ns _ k=none;rw[xA _ _ (by omega)];exact hR.τns k (show s.ns<=k by omega)
 ·rcases hold k hk with rfl|⟨e,h1,h2⟩;·exact⟨0,1,0,hnew,.inl (Nat.lt_succ_self _)⟩
  ·obtain⟨b,f,t,q1,q2⟩:=hR.own k h1;exact⟨b,f,t,h2.trans q1,q2⟩
 ·rcases hold k hk with rfl|⟨e,q1,q2⟩;·rw[hnew]at h1;cases h1;omega
  ·rcases hold k' hk' with rfl|⟨e',q3,q4⟩;·rw[hnew]at h2;cases h2;omega
   ·rw[q2]at h1;rw[q4]at h2;exact hR.ownd k k' b f t f' t' q1 q3 h1 h2 l1 l2
theorem zJG{s:yW}(h:s.Ok):s.more.Ok:=⟨h.H,λk hk=>by
 rcases List.mem_cons.1 hk with rfl|hk;·exact⟨Nat.zero_le _,Nat.lt_succ_self _⟩
 ·exact⟨Nat.zero_le _,Nat.lt_succ_of_lt (h.own k hk).2⟩,h.fr,Nat.zero_le _⟩
theorem mP.restamp0{it:Option Nat×Nat×Nat}{env env':List AV}{s s':yW}(h:Ab.restamp0 it env s=some (env',s')){G:Gh}{a:Act}{w:World}(ho:s.Ok)(hR:mP G ⟨env,yX (vW 0) s⟩ a w):∃G',wV G w G' w/\s'.Ok/\mP G' ⟨env',yX (vW 0) s'⟩ a w:=by
 by_cases hit:∃i c,it=(some i,c,0)
 ·obtain⟨i,c,rfl⟩:=hit;simp only[Ab.restamp0]at h;split at h
  ·rename_i cs hcs;cases h;obtain⟨G',q1,q2,q3⟩:=yK.mv ho hR.st hcs;exact⟨G',q1,zYG ho i cs,q3,VL.mv q1 q2 _ _ hR.env,hR.dfr⟩
  ·cases h
 have hE:=wV.more hR.st;have hM:=yK.more hR.st;have hτ:∃q,(G.addτ s.ns (0,1,0)).τ s.ns=some q:=⟨_,yH _ _ _⟩;have henv:=VL.mono hE _ _ hR.env;obtain⟨ob,c,sz⟩:=it;cases ob with
 |none=>
  simp only[Ab.restamp0]at h;split at h
  ·rename_i x hx;split at h
   ·rename_i x' hx';cases h;refine⟨_,hE,zJG ho,hM,?_,hR.dfr⟩;exact VL.set' _ _ henv c x x' hx λu hu=>V.reown hx' hτ hu
   ·cases h
  ·cases h|some b=>
  obtain⟨sz,rfl⟩:∃m,sz=m+1:=by cases sz with|zero=>exact(hit ⟨b,c,rfl⟩).elim|succ m=>exact⟨m,rfl⟩
  simp only[Ab.restamp0]at h;split at h
  ·rename_i cs hcs;split at h
   ·rename_i x hx;split at h
    ·rename_i x' hx';cases h;have hl:∀j,look (wX s.H b (.cells (cs.set c x'))) j=if j=b then some (.cells (cs.set c x'))else look s.H j:=λj=>qX _ _ _ _ _ hcs;have hdd:∀i,(yX (vW 0) s.more).H i=some .dead->(yX (vW 0) ⟨wX s.H b (.cells (cs.set c x')),s.more.nx,s.more.own,s.more.ns,s.more.dirty⟩).H i=some .dead:=by intro i hi;rw[xV]at hi⊢;have hi':look s.H i=some .dead:=hi;show look (wX s.H b (.cells (cs.set c x'))) i=_;rw[hl,if_neg (λe=>by subst e;rw[hcs]at hi';cases hi')];exact hi'
     refine⟨_,hE,⟨λi X hX=>?_,(zJG ho).own,ho.fr,Nat.zero_le _⟩,⟨λi=>?_,?_,λi j q hi hj=>(hM.inj i j q hi hj).imp id (Or.imp (hdd i) (hdd j)),λi q X hi hX=>?_,hM.live,hM.τns,hM.own,hM.ownd,hM.below,hM.base⟩,henv,hR.dfr⟩
     ·have hX':look (wX s.H b (.cells (cs.set c x'))) i=some X:=hX;rw[hl]at hX';by_cases e:i=b;·subst e;exact ho.H i _ hcs
      ·rw[if_neg e]at hX';exact ho.H i X hX'
     ·have hd:=hM.dom i;rw[xV]at hd⊢;have hd':jZ _ _ (look s.H i):=hd;show jZ _ _ (look (wX s.H b (.cells (cs.set c x'))) i);rw[hl];by_cases e:i=b
      ·subst e;rw[if_pos rfl];rw[hcs]at hd';exact⟨λq=>(hd'.1 q).imp id λq=>(by cases q),λq=>(by cases q),λq=>((hd'.2.2 q).2 _ rfl).elim⟩
      ·rw[if_neg e];exact hd'
     ·obtain⟨N,hN⟩:=hM.fin;refine⟨max N (b+1),λi hi=>?_⟩;have:=hN i (by omega);rw[xV]at this⊢;show look (wX s.H b (.cells (cs.set c x'))) i=none;rw[hl,if_neg (by omega)];exact this
     ·rw[xV]at hX;have hX':look (wX s.H b (.cells (cs.set c x'))) i=some X:=hX;rw[hl]at hX';by_cases e:i=b
      ·subst e;rw[if_pos rfl]at hX';cases hX';obtain⟨q1,vs,T,q2,q3⟩:=hM.blk i q _ hi (by rw[xV];exact hcs);exact⟨q1,vs,T,q2,q3.imp λus q3=>VL.set' _ _ q3 c x x' hx λu hu=>V.reown hx' hτ hu⟩
      ·rw[if_neg e]at hX';exact hM.blk i q X hi (by rw[xV];exact hX')
    ·cases h
   ·cases h
  ·cases h
theorem zLD{s:yW}(h:s.Ok):s.nilrow.Ok:=by refine⟨λk X hk=>?_,h.own,h.fr,Nat.zero_le _⟩;have hk':look ((s.nx,yM.row [])::s.H) k=some X:=hk;show k<s.nx+1;simp only[look]at hk';cases hb:Nat.beq k s.nx with|true=>have:=Nat.eq_of_beq_eq_true hb;omega|false=>rw[hb]at hk';exact Nat.lt_succ_of_lt (h.H k X hk')
theorem yK.nilled{G:Gh}{s:yW}{w:World}(ho:s.Ok)(h:yK G (yX (vW 0) s) w):yK (G.addN s.nx) (yX (vW 0) s.nilrow) w:=by
 have hn:(yX (vW 0) s).H s.nx=none:=by rw[xV];cases hl:Ab.look s.H s.nx with|none=>rfl|some X=>exact absurd (ho.H _ _ hl) (Nat.lt_irrefl _)
 have e:(yX (vW 0) s.nilrow)=⟨up (yX (vW 0) s).H s.nx (.row []),(yX (vW 0) s).own,(yX (vW 0) s).ns⟩:=by
  have hH:(yX (vW 0) s.nilrow).H=up (yX (vW 0) s).H s.nx (.row []):=by
   funext i;rw[xV];show Ab.look ((s.nx,yM.row [])::s.H) i=_;simp only[Ab.look];by_cases e:i=s.nx;·subst e;rw[yH];simp
   ·rw[xA _ _ e,xV,oH e];rfl
  rw[<-hH];rfl
 rw[e];exact h.nilrow hn
theorem V.nilled{G:Gh}{w:World}{a:AV}{u:Value}{j sz:Nat}(h:zLC a=true)(hv:V G w a u)(hj:G.N j):V G w (.ms j 0 0 0 sz) u:=by
 have ha:a=.sl [] 0 .nl\/a=.sl [] 0 .full:=by
  unfold zLC at h;split at h;·exact .inl rfl
  ·exact .inr rfl
  ·cases h
 obtain⟨p,rfl⟩:=dF ha hv;simp only[V];exact .inr ⟨(by trivial),hj,p,rfl⟩
theorem yK.reblk{G:Gh}{s:yW}{w:World}{b:Nat}{cs cs':List AV}(hM:yK G (yX (vW 0) s) w)(hcs:Ab.look s.H b=some (.cells cs))(h:∀us,VL G w cs us->VL G w cs' us):yK G (yX (vW 0) {s with H:=wX s.H b (.cells cs')}) w:=by
 have hl:∀j,Ab.look (wX s.H b (.cells cs')) j=if j=b then some (.cells cs')else Ab.look s.H j:=λj=>qX _ _ _ _ _ hcs;have hdd:∀i,(yX (vW 0) s).H i=some .dead->(yX (vW 0) {s with H:=wX s.H b (.cells cs')}).H i=some .dead:=by intro i hi;rw[xV]at hi⊢;show Ab.look (wX s.H b (.cells cs')) i=_;rw[hl,if_neg (λe=>by subst e;rw[hcs]at hi;cases hi)];exact hi
 refine⟨λi=>?_,?_,λi j q hi hj=>(hM.inj i j q hi hj).imp id (Or.imp (hdd i) (hdd j)),λi q X hi hX=>?_,hM.live,hM.τns,hM.own,hM.ownd,hM.below,hM.base⟩
 ·have hd:=hM.dom i;rw[xV]at hd⊢;show jZ _ _ (Ab.look (wX s.H b (.cells cs')) i);rw[hl];by_cases e:i=b
  ·subst e;rw[if_pos rfl];rw[hcs]at hd;exact⟨λq=>(hd.1 q).imp id λq=>(by cases q),λq=>(by cases q),λq=>((hd.2.2 q).2 _ rfl).elim⟩
  ·rw[if_neg e];exact hd
 ·obtain⟨N,hN⟩:=hM.fin;refine⟨max N (b+1),λi hi=>?_⟩;have:=hN i (by omega);rw[xV]at this⊢;show Ab.look (wX s.H b (.cells cs')) i=none;rw[hl,if_neg (by omega)];exact this
 ·rw[xV]at hX;have hX':Ab.look (wX s.H b (.cells cs')) i=some X:=hX;rw[hl]at hX';by_cases e:i=b
  ·subst e;rw[if_pos rfl]at hX';cases hX';obtain⟨q1,vs,T,q2,q3⟩:=hM.blk i q _ hi (by rw[xV];exact hcs);exact⟨q1,vs,T,q2,q3.imp λus q3=>h us q3⟩
  ·rw[if_neg e]at hX';exact hM.blk i q X hi (by rw[xV];exact hX')
theorem mP.nilcell{it:Option Nat×Nat×Nat}{env env':List AV}{s s':yW}(h:Ab.nilcell it env s=some (env',s')){G:Gh}{a:Act}{w:World}(ho:s.Ok)(hR:mP G ⟨env,yX (vW 0) s⟩ a w):∃G',wV G w G' w/\s'.Ok/\mP G' ⟨env',yX (vW 0) s'⟩ a w:=by have hE:=wV.addN G w s.nx;have hM:=hR.st.nilled ho;have hN:(G.addN s.nx).N s.nx:=.inr rfl;have henv:=VL.mono hE _ _ hR.env;have ho':=zLD ho;obtain⟨ob,c,sz⟩:=it;cases ob with
 |none=>
  simp only[Ab.nilcell]at h;split at h
  ·rename_i x hx;cases hb:zLC x with|false=>rw[hb]at h;cases h|true=>rw[hb]at h;cases h;exact⟨_,hE,ho',hM,VL.set' _ _ henv c x _ hx λu hu=>V.nilled hb hu hN,hR.dfr⟩
  ·cases h|some b=>
  simp only[Ab.nilcell]at h;split at h
  ·rename_i cs hcs;split at h
   ·rename_i x hx;cases hb:zLC x with|false=>rw[hb]at h;cases h|true=>
    rw[hb]at h;cases h;have hl:∀j,look (wX s.nilrow.H b (.cells (cs.set c (.ms s.nx 0 0 0 (sz-4096))))) j=if j=b then some (.cells (cs.set c (.ms s.nx 0 0 0 (sz-4096))))else look s.nilrow.H j:=λj=>qX _ _ _ _ _ hcs;refine⟨_,hE,⟨λi X hX=>?_,ho'.own,ho'.fr,Nat.zero_le _⟩,hM.reblk hcs λus hu=>VL.set' _ _ hu c x _ hx λu hu=>V.nilled hb hu hN,henv,hR.dfr⟩;have hX':look (wX s.nilrow.H b (.cells (cs.set c (.ms s.nx 0 0 0 (sz-4096))))) i=some X:=hX;rw[hl]at hX';by_cases e:i=b;·subst e;exact ho'.H i _ hcs
    ·rw[if_neg e]at hX';exact ho'.H i X hX'
   ·cases h
  ·cases h
theorem yK.reblkX{G:Gh}{s:yW}{w:World}{b:Nat}{X Y:yM}(hM:yK G (yX (vW 0) s) w)(hcs:Ab.look s.H b=some X)(hd:X≠.dead)(h:∀c,vN G w c X->vN G w c Y)(hv:X.void->Y.void):yK G (yX (vW 0) {s with H:=wX s.H b Y}) w:=by
 have hl:∀j,Ab.look (wX s.H b Y) j=if j=b then some Y else Ab.look s.H j:=λj=>qX _ _ _ _ _ hcs;have hdd:∀i,(yX (vW 0) s).H i=some .dead->(yX (vW 0) {s with H:=wX s.H b Y}).H i=some .dead:=by intro i hi;rw[xV]at hi⊢;show Ab.look (wX s.H b Y) i=_;rw[hl,if_neg (λe=>by subst e;rw[hcs]at hi;cases hi;exact hd rfl)];exact hi
 refine⟨λi=>?_,?_,λi j q hi hj=>(hM.inj i j q hi hj).imp id (Or.imp (hdd i) (hdd j)),λi q Z hi hX=>?_,hM.live,hM.τns,hM.own,hM.ownd,hM.below,hM.base⟩
 ·have hd:=hM.dom i;rw[xV]at hd⊢;show jZ _ _ (Ab.look (wX s.H b Y) i);rw[hl];by_cases e:i=b
  ·subst e;rw[if_pos rfl];rw[hcs]at hd;exact⟨λq=>(hd.1 q).imp id λq=>(by cases q),λq=>(by cases q),λq=>⟨(hd.2.2 q).1,λZ hZ=>by cases hZ;exact hv ((hd.2.2 q).2 _ rfl)⟩⟩
  ·rw[if_neg e];exact hd
 ·obtain⟨N,hN⟩:=hM.fin;refine⟨max N (b+1),λi hi=>?_⟩;have:=hN i (by omega);rw[xV]at this⊢;show Ab.look (wX s.H b Y) i=none;rw[hl,if_neg (by omega)];exact this
 ·rw[xV]at hX;have hX':Ab.look (wX s.H b Y) i=some Z:=hX;rw[hl]at hX';by_cases e:i=b
  ·subst e;rw[if_pos rfl]at hX';cases hX';obtain⟨q1,q2⟩:=hM.blk i q _ hi (by rw[xV];exact hcs);exact⟨q1,h q q2⟩
  ·rw[if_neg e]at hX';exact hM.blk i q Z hi (by rw[xV];exact hX')
theorem mP.retell{it:Option Nat×Nat×Nat}{env env':List AV}{s s':yW}(h:Ab.retell it env s=some (env',s')){G:Gh}{a:Act}{w:World}(ho:s.Ok)(hR:mP G ⟨env,yX (vW 0) s⟩ a w):∃G',wV G w G' w/\s'.Ok/\mP G' ⟨env',yX (vW 0) s'⟩ a w:=by
 have ok:∀(b:Nat)(X Y:yM),look s.H b=some X->({s with H:=wX s.H b Y}:yW).Ok:=λb X Y hb=>by
  refine⟨λi Z hZ=>?_,ho.own,ho.fr,Nat.zero_le _⟩;have hZ':look (wX s.H b Y) i=some Z:=hZ;rw[qX _ _ _ _ _ hb]at hZ';by_cases e:i=b;·subst e;exact ho.H i _ hb
  ·rw[if_neg e]at hZ';exact ho.H i Z hZ'
 unfold Ab.retell at h;split at h
 ·split at h
  ·rename_i x cs hb;cases h;exact⟨G,wV.refl G w,ok _ _ _ hb,yK.reblkX hR.st hb (by simp) (λ_ q=>q) (λq=>q.elim),hR.env,hR.dfr⟩
  ·cases h
 ·split at h
  ·rename_i x cs hb;cases h;exact⟨G,wV.refl G w,ok _ _ _ hb,yK.reblkX hR.st hb (by simp) (λc⟨vs,T,q1,q2⟩=>⟨vs,T,q1,q2.imp λus q=>VL.frz _ _ q⟩) (λq=>q.elim),hR.env,hR.dfr⟩
  ·cases h
 ·split at h
  ·rename_i x cs hb;cases h;exact⟨G,wV.refl G w,ok _ _ _ hb,yK.reblkX hR.st hb (by simp[frzU]) (λc⟨vs,T,q1,q2⟩=>⟨vs,T,q1,q2.imp λus q=>VL.frzU _ _ _ q⟩) (λq=>q.elim),hR.env,hR.dfr⟩
  ·cases h
 ·cases h
theorem mP.restamp{it:Option Nat×Nat×Nat}{env env':List AV}{s s':yW}(h:Ab.restamp it env s=some (env',s')){G:Gh}{a:Act}{w:World}(ho:s.Ok)(hR:mP G ⟨env,yX (vW 0) s⟩ a w):∃G',wV G w G' w/\s'.Ok/\mP G' ⟨env',yX (vW 0) s'⟩ a w:=by unfold Ab.restamp at h;cases hb0:Nat.ble 8192 it.2.2 with|true=>rw[hb0]at h;exact mP.retell h ho hR|false=>rw[hb0]at h;simp only[cond_false]at h;cases hb:Nat.ble 4096 it.2.2 with|true=>rw[hb]at h;exact mP.nilcell h ho hR|false=>rw[hb]at h;exact mP.restamp0 h ho hR
theorem mP.restamps:∀(l:List (Option Nat×Nat×Nat)){env env':List AV}{s s':yW},Ab.restamps l env s=some (env',s')->∀{G:Gh}{a:Act}{w:World},s.Ok->mP G ⟨env,yX (vW 0) s⟩ a w->∃G',wV G w G' w/\s'.Ok/\mP G' ⟨env',yX (vW 0) s'⟩ a w
 |[],env,env',s,s',h,G,a,w,ho,hR=>by simp only[Ab.restamps,Option.some.injEq,Prod.mk.injEq]at h;obtain⟨rfl,rfl⟩:=h;exact⟨G,wV.refl G w,ho,hR⟩|it::l,env,env',s,s',h,G,a,w,ho,hR=>by
  simp only[Ab.restamps]at h;split at h
  ·rename_i env1 s1 h1;obtain⟨G1,e1,o1,r1⟩:=mP.restamp h1 ho hR;obtain⟨G2,e2,o2,r2⟩:=mP.restamps l h o1 r1;exact⟨G2,e1.trans e2,o2,r2⟩
  ·cases h
inductive Fr where|seq(y:Code)|blk(i:Nat)|loop(c:Code)
def vA(P:Program)(na:Nb)(Q:AX->List AV->yW->Prop):List Fr->AX->List AV->yW->Prop|[]=>Q|.seq y::fs=>zOy (λe s=>Dv P na y e s (vA P na Q fs)) (vA P na Q fs)|.blk i::fs=>zCQ i (vA P na Q fs)|.loop c::fs=>zOy (λe s=>Dl P na c e s (vA P na Q fs)) (vA P na Q fs)
inductive Md where|run(c:Code)|ret(x:AX)
inductive KR where|fin(x:AX)|head(c:Code)(fs:List Fr)
def pK(P:Program)(pr:FuncId->List AV->yW->Option LA):Nat->Md->List Fr->List AV->yW->List mS->Option (KR×List AV×yW×List mS×List Ob)
 |0,_,_,_,_,_=>none|n+1,.run c,fs,env,s,os=>match c with
  |.skip=>pK P pr n (.ret .normal) fs env s os|.label _=>pK P pr n (.ret .normal) fs env s os|.exit i=>pK P pr n (.ret (.exit i)) fs env s os|.ret=>pK P pr n (.ret .ret) fs env s os|.seq x y=>pK P pr n (.run x) (.seq y::fs) env s os|.cond c x y=>match aev env c with|.val (.bool b)=>pK P pr n (.run (bif b then x else y)) fs env s os|_=>none
  |.block i c=>pK P pr n (.run c) (.blk i::fs) env s os|.scope c=>pK P pr n (.run c) fs env s os|.loop c=>some (.head c fs,env,s,os,[])|.region _ ops draw=>match bJ P pr ops ops.toList 0 env s os with
   |some (l,env1,s1,os1,o1)=>bif !draw||(fB ops&&R3 ops (zCL ops.toList []) l)then match pK P pr n (.ret .normal) fs env1 s1 os1 with|some (k,env2,s2,os2,o2)=>some (k,env2,s2,os2,o1++o2)|none=>none else none|none=>none
  |_=>none
 |n+1,.ret x,fs,env,s,os=>match fs with
  |[]=>some (.fin x,env,s,os,[])|.seq y::fs=>match x with|.normal=>pK P pr n (.run y) fs env s os|x=>pK P pr n (.ret x) fs env s os
  |.blk i::fs=>match x with|.exit j=>pK P pr n (.ret (bif Nat.beq j i then .normal else .exit j)) fs env s os|x=>pK P pr n (.ret x) fs env s os
  |.loop c::fs=>match x with|.normal=>some (.head c fs,env,s,os,[])|x=>pK P pr n (.ret x) fs env s os
def zBe(P:Program)(na:Nb)(Q:AX->List AV->yW->Prop)(fs:List Fr)(env:List AV)(s:yW):Md->Prop|.run c=>Dv P na c env s (vA P na Q fs)|.ret x=>vA P na Q fs x env s
def KQ(P:Program)(na:Nb)(Q:AX->List AV->yW->Prop)(env:List AV)(s:yW):KR->Prop|.fin x=>Q x env s|.head c fs=>Dl P na c env s (vA P na Q fs)
theorem nD{P:Program}{pr:FuncId->List AV->yW->Option LA}(hp:rV P pr)(hm:P.follows .mixedOrders=true){na:Nb}{Q:AX->List AV->yW->Prop}:∀(n:Nat)(m:Md)(fs:List Fr)(env:List AV)(s:yW)(os:List mS)(k:KR)(env':List AV)(s':yW)(os':List mS)(ob:List Ob),pK P pr n m fs env s os=some (k,env',s',os',ob)->yR P ob->KQ P na Q env' s' k->zBe P na Q fs env s m:=by intro n;induction n with|zero=>intro m fs env s os k env' s' os' ob h;cases m<;>cases h|succ n ih=>intro m fs env s os k env' s' os' ob h hob hk;cases m with
 |ret x=>cases fs with|nil=>simp only[pK,Option.some.injEq,Prod.mk.injEq]at h;obtain⟨rfl,rfl,rfl,rfl,rfl⟩:=h;exact hk|cons f fs=>cases f with
   |seq y=>cases x with|normal=>exact ih (.run y) fs env s os k env' s' os' ob h hob hk|exit i=>exact ih (.ret (.exit i)) fs env s os k env' s' os' ob h hob hk|ret=>exact ih (.ret .ret) fs env s os k env' s' os' ob h hob hk
   |blk i=>cases x with|normal=>exact ih (.ret .normal) fs env s os k env' s' os' ob h hob hk|ret=>exact ih (.ret .ret) fs env s os k env' s' os' ob h hob hk|exit j=>have:=ih (.ret (bif Nat.beq j i then .normal else .exit j)) fs env s os k env' s' os' ob h hob hk;simp only[zBe,vA,zCQ]at this⊢;cases hb:Nat.beq j i with|true=>rw[if_pos (Nat.eq_of_beq_eq_true hb)];rw[hb]at this;exact this|false=>rw[if_neg (λe=>by subst e;simp at hb)];rw[hb]at this;exact this
   |loop c=>cases x with|normal=>simp only[pK,Option.some.injEq,Prod.mk.injEq]at h;obtain⟨rfl,rfl,rfl,rfl,rfl⟩:=h;exact hk|exit i=>exact ih (.ret (.exit i)) fs env s os k env' s' os' ob h hob hk|ret=>exact ih (.ret .ret) fs env s os k env' s' os' ob h hob hk
 |run c=>cases c with
  |skip=>exact Dv.ofEv (Ev.skip (ih (.ret .normal) fs env s os k env' s' os' ob h hob hk))|label l=>exact Dv.ofEv (Ev.label (ih (.ret .normal) fs env s os k env' s' os' ob h hob hk))|exit i=>exact Dv.ofEv (Ev.exit (ih (.ret (.exit i)) fs env s os k env' s' os' ob h hob hk))|ret=>exact Dv.ofEv (Ev.ret (ih (.ret .ret) fs env s os k env' s' os' ob h hob hk))|seq y z=>exact Dv.seq (ih (.run y) (.seq z::fs) env s os k env' s' os' ob h hob hk)|cond o y z=>
   simp only[pK]at h;split at h;·rename_i t ht;have h1:=ih (.run (bif t then y else z)) fs env s os k env' s' os' ob h hob hk;exact Dv.cond ht (by cases t<;>exact h1)
   ·cases h|block i y=>exact Dv.block (ih (.run y) (.blk i::fs) env s os k env' s' os' ob h hob hk)|loop y=>simp only[pK,Option.some.injEq,Prod.mk.injEq]at h;obtain⟨rfl,rfl,rfl,rfl,rfl⟩:=h;exact Dv.loop hk|scope y=>exact Dv.scope (ih (.run y) fs env s os k env' s' os' ob h hob hk)|region id ops draw=>
   simp only[pK]at h;split at h;·rename_i l env1 s1 os1 o1 hr;cases hb:(!draw||(fB ops&&R3 ops (zCL ops.toList []) l))with|false=>rw[hb]at h;cases h|true=>
    rw[hb]at h;simp only[cond_true]at h;split at h;·rename_i k2 env2 s2 os2 o2 hr2;cases h;obtain⟨q1,q2⟩:=yR.append hob;exact Dv.ofEv (zEB hp hm hr hb q1 (ih (.ret .normal) fs env1 s1 os1 _ _ _ _ _ hr2 q2 hk))
    ·cases h
   ·cases h|rangeFunc=>cases h|goto=>cases h|refuse=>cases h
mutual def AV.dobs(keep:List Nat):AV->Option (List Ob)|.val _=>some []|.agg cs=>AV.dobsL keep cs|.tup cs=>AV.dobsL keep cs|.sl es _ _=>some [.data es]|.ip es=>some [.data es]|.mp i _=>bif qF keep i then some []else none|.ms i _ _ _ _=>bif qF keep i then some []else none|.obj i=>bif qF keep i then some []else none|.clo _ fs cs=>match AV.dobsL keep fs,AV.dobsL keep cs with|some a,some b=>some (a++b)|_,_=>none def AV.dobsL(keep:List Nat):List AV->Option (List Ob)|[]=>some []|a::l=>match AV.dobs keep a,AV.dobsL keep l with|some x,some y=>some (x++y)|_,_=>none end
mutual theorem AV.dobs_ok{P:Program}{keep:List Nat}:∀(a:AV)(ob:List Ob),a.dobs keep=some ob->yR P ob->a.fine (λi=>i∈keep)
 |.val _,_,_,_=>trivial|.agg cs,ob,h,hob=>AV.dobsL_ok cs ob h hob|.tup cs,ob,h,hob=>AV.dobsL_ok cs ob h hob|.sl es _ _,ob,h,hob=>by simp only[AV.dobs,Option.some.injEq]at h;subst h;exact hob.1|.ip es,ob,h,hob=>by simp only[AV.dobs,Option.some.injEq]at h;subst h;exact hob.1|.mp i _,ob,h,_=>by simp only[AV.dobs]at h;cases hm:qF keep i with|false=>rw[hm]at h;cases h|true=>exact vV.1 hm
 |.ms i _ _ _ _,ob,h,_=>by simp only[AV.dobs]at h;cases hm:qF keep i with|false=>rw[hm]at h;cases h|true=>exact vV.1 hm
 |.obj i,ob,h,_=>by simp only[AV.dobs]at h;cases hm:qF keep i with|false=>rw[hm]at h;cases h|true=>exact vV.1 hm
 |.clo _ fs cs,ob,h,hob=>by
  simp only[AV.dobs]at h;split at h
  ·rename_i a b h1 h2;cases h;obtain⟨q1,q2⟩:=yR.append hob;exact⟨AV.dobsL_ok fs a h1 q1,AV.dobsL_ok cs b h2 q2⟩
  ·cases h theorem AV.dobsL_ok{P:Program}{keep:List Nat}:∀(as0:List AV)(ob:List Ob),AV.dobsL keep as0=some ob->yR P ob->AV.fineL (λi=>i∈keep) as0
 |[],_,_,_=>trivial|a::as0,ob,h,hob=>by
  simp only[AV.dobsL]at h;split at h;·rename_i x y h1 h2;cases h;obtain⟨q1,q2⟩:=yR.append hob;exact⟨AV.dobs_ok a x h1 q1,AV.dobsL_ok as0 y h2 q2⟩
  ·cases h end
def yM.dobs(keep:List Nat):yM->Option (List Ob)|.cells cs=>AV.dobsL keep cs|.obj _=>some []|.row cs=>some [.data cs]|.dead=>some []
def dK(keep:List Nat)(s:yW):List Nat->Option (List Ob)|[]=>some []|i::l=>match((look s.H i).getD (.cells [])).dobs keep,dK keep s l with|some a,some b=>some (a++b)|_,_=>none
theorem aQ{P:Program}{keep:List Nat}{s:yW}:∀(l:List Nat)(ob:List Ob),dK keep s l=some ob->yR P ob->nM keep s l
 |[],_,_,_=>trivial|i::l,ob,h,hob=>by
  simp only[dK]at h;split at h;·rename_i a b h1 h2;cases h;obtain⟨q1,q2⟩:=yR.append hob;refine⟨?_,aQ l b h2 q2⟩;cases hX:(look s.H i).getD (.cells [])with|cells cs=>rw[hX]at h1;exact AV.dobsL_ok cs a h1 q1|obj o=>trivial|row cs=>rw[hX]at h1;simp only[yM.dobs,Option.some.injEq]at h1;subst h1;exact q1.1|dead=>trivial
  ·cases h
def zCS(keep live:List Nat):List AV->Nat->Option (List Ob)|[],_=>some []|a::l,t=>match(bif qF live t then a.dobs keep else some []),zCS keep live l (t+1)with|some x,some y=>some (x++y)|_,_=>none
theorem zBd{P:Program}{keep live:List Nat}:∀(env:List AV)(t:Nat)(ob:List Ob),zCS keep live env t=some ob->yR P ob->iE keep live env t
 |[],_,_,_,_=>trivial|a::l,t,ob,h,hob=>by
  simp only[zCS]at h;split at h
  ·rename_i x y h1 h2;cases h;obtain⟨q1,q2⟩:=yR.append hob;refine⟨?_,zBd l (t+1) y h2 q2⟩;cases hm:qF live t with|true=>rw[hm]at h1;exact AV.dobs_ok a x h1 q1|false=>trivial
  ·cases h
theorem Dl.restamps{P:Program}{na:Nb}{c:Code}{env env':List AV}{s s':yW}{Q:AX->List AV->yW->Prop}{rs:List (Option Nat×Nat×Nat)}(hr:Ab.restamps rs env s=some (env',s'))(h:Dl P na c env' s' Q):Dl P na c env s Q:=by intro G0 W h0 G a w hE ho hR;obtain⟨G',e,o,r⟩:=mP.restamps rs hr ho hR;exact h G0 W h0 G' a w (hE.trans e) o r
def C9(P:Program)(pr:FuncId->List AV->yW->Option LA)(na n:Nat)(m:Md)(fs:List Fr)(env:List AV)(s:yW)(os:List mS)(rs:List (Option Nat×Nat×Nat))(keep ks live:List Nat)(j:Nat->Value):Option (Code×List Fr×List AV×yW×List Ob):=match pK P pr n m fs env s os with
 |some (.head c fs',env1,s1,[],ob)=>match restamps rs env1 s1 with
  |none=>none|some (env',s')=>bif reB na keep ks s' then match dK keep s' keep,zCS keep live env' 0 with|some o1,some o2=>some (c,fs',reEnv keep ks live j env' 0,jA keep ks s',ob++(o1++o2))|_,_=>none else none
 |_=>none
theorem zEC{P:Program}{pr:FuncId->List AV->yW->Option LA}(hp:rV P pr)(hm:P.follows .mixedOrders=true){na:Nb}{Q:AX->List AV->yW->Prop}{n:Nat}{m:Md}{fs fs':List Fr}{env:List AV}{E:(Nat->Value)->List AV}{s S:yW}{os:List mS}{rs:List (Option Nat×Nat×Nat)}{keep ks live:List Nat}{c:Code}{ob:List Ob}(h:∀j,C9 P pr na.n n m fs env s os rs keep ks live j=some (c,fs',E j,S,ob))(hob:yR P ob)(hk:∀j,Dl P na c (E j) S (vA P na Q fs')):zBe P na Q fs env s m:=by
 have h0:=h λ_=>undef;unfold C9 at h0;split at h0
 ·rename_i c' fs1 env1 s1 ob' hr;split at h0;·cases h0
  rename_i env' s' hrs;cases hb:reB na.n keep ks s' with|false=>rw[hb]at h0;cases h0|true=>
   rw[hb]at h0;simp only[cond_true]at h0;split at h0
   ·rename_i o1 o2 h1 h2;simp only[Option.some.injEq,Prod.mk.injEq]at h0;obtain⟨rfl,rfl,_,rfl,rfl⟩:=h0;obtain⟨q1,q2⟩:=yR.append hob;obtain⟨q3,q4⟩:=yR.append q2;refine nD hp hm _ _ _ _ _ _ _ _ _ _ _ hr q1 ?_;refine Dl.restamps hrs ?_;refine Dl.re keep ks live hb (aQ _ _ h1 q3) (zBd _ _ _ h2 q4) λj=>?_;have hj:=h j;unfold C9 at hj;rw[hr]at hj;simp only[hrs,hb,cond_true,h1,h2,Option.some.injEq,Prod.mk.injEq]at hj;rw[hj.2.2.1];exact hk j
   ·cases h0
 ·cases h0
def sK(H:List (Nat×yM))(j:Nat):Nat->List yM|0=>[]|n+1=>(look H j).getD (.cells [])::sK H (j+1) n
theorem R7{H:List (Nat×yM)}:∀(n j i:Nat)(X:yM),(sK H j n)[i]?=some X->(∃Y,look H (j+i)=some Y)->look H (j+i)=some X|0,_,_,_,h,_=>by simp[sK]at h|n+1,j,i,X,h,⟨Y,hY⟩=>by cases i with|zero=>simp only[sK,List.getElem?_cons_zero,Option.some.injEq]at h;simp only[Nat.add_zero]at hY⊢;rw[hY]at h⊢;simpa using h|succ i=>simp only[sK,List.getElem?_cons_succ]at h;rw[show j+(i+1)=j+1+i by omega]at hY⊢;exact R7 n (j+1) i X h ⟨Y,hY⟩
def Own.nlB:Own->Bool|.nl=>true|.full=>true|_=>false
def AV.frzK:AV->AV|.sl es n o=>bif o.nlB then(match es with|[]=>.sl [] n o|es=>.sl es n .no)else .sl es n .no|a=>a.frz
theorem V.frzK{G:Gh}{w:World}{a:AV}{u:Value}(h:V G w a u):V G w a.frzK u:=by
 unfold AV.frzK;split;·rename_i es n o;cases o.nlB with|false=>exact V.frz (.sl es n o) _ h|true=>
  simp only[cond_true];split;·exact h
  ·exact V.frz (.sl es n o) _ h
 ·exact V.frz _ _ h
theorem VL.frzK{G:Gh}{w:World}:∀(as0:List AV)(us:List Value),VL G w as0 us->VL G w (as0.map AV.frzK) us|[],[],_=>by simp only[List.map_nil,VL]|a::as0,u::us,h=>by simp only[VL,List.map_cons]at h⊢;exact⟨V.frzK h.1,VL.frzK as0 us h.2⟩|[],_::_,h=>by simp only[VL]at h|_::_,[],h=>by simp only[VL]at h
def yM.fzB(k:Bool):yM->yM|.cells cs=>.cells (bif k then cs.map AV.frzK else AV.frzL cs)|.obj o=>.obj o|.row cs=>.row cs|.dead=>.dead
theorem vN.frz{G:Gh}{w:World}{b:Nat}{X:yM}(h:vN G w b X)(k:Bool):vN G w b (X.fzB k):=by cases X with
 |cells cs=>obtain⟨vs,T,h1,h2⟩:=h;cases k with|true=>exact⟨vs,T,h1,h2.imp (VL.frzK _)⟩|false=>exact⟨vs,T,h1,h2.imp (VL.frz _)⟩
 |obj o=>exact h|row cs=>exact h|dead=>exact h
def D0(k:Bool):List (Nat×yM)->List (Nat×yM)|[]=>[]|p::l=>(p.1,p.2.fzB k)::D0 k l
theorem iH(k:Bool):∀(l:List (Nat×yM))(i:Nat),look (D0 k l) i=(look l i).map (yM.fzB k)|[],_=>rfl|p::l,i=>by simp only[D0,look];cases Nat.beq i p.1 with|true=>rfl|false=>simp only[cond_false];exact iH k l i
def zJH(k:Bool)(s:yW):yW:={s with H:=D0 k s.H}
theorem yK.frz{G:Gh}{s:yW}{w:World}(h:yK G (yX (vW 0) s) w)(k:Bool):yK G (yX (vW 0) (zJH k s)) w:=by
 have hH:∀i,(yX (vW 0) (zJH k s)).H i=((yX (vW 0) s).H i).map (yM.fzB k):=by intro i;rw[xV,xV];exact iH k s.H i
 have hdd:∀i,(yX (vW 0) s).H i=some .dead->(yX (vW 0) (zJH k s)).H i=some .dead:=λi hi=>by rw[hH,hi];rfl
 refine⟨λi=>?_,?_,λi j q hi hj=>(h.inj i j q hi hj).imp id (Or.imp (hdd i) (hdd j)),λi b X hi hX=>?_,h.live,h.τns,h.own,h.ownd,h.below,h.base⟩;·rw[hH];exact(h.dom i).map λX hX=>by cases X<;>first|exact hX|exact hX.elim|trivial
 ·obtain⟨N,hN⟩:=h.fin;exact⟨N,λi hi=>by rw[hH,hN i hi];rfl⟩
 ·rw[hH]at hX;cases hY:(yX (vW 0) s).H i with|none=>rw[hY]at hX;cases hX|some Y=>rw[hY]at hX;simp only[Option.map_some,Option.some.injEq]at hX;subst hX;obtain⟨q1,q2⟩:=h.blk i b Y hi hY;exact⟨q1,q2.frz k⟩
def frz1:AV->AV|.sl es n (.st k sz)=>.sl es n (.st k sz)|a=>a.frz
def frzT:AV->AV|.tup cs=>.tup (cs.map frz1)|a=>frz1 a
def frzN(keep:List Nat)(a:AV):AV:=match keep,a with|[],.sl es n o=>bif o.nlB then(match es with|[]=>.sl [] n .full|es=>frzT (.sl es n o))else frzT (.sl es n o)|_,a=>frzT a
theorem V.frz1{G:Gh}{w:World}{a:AV}{u:Value}(h:V G w a u):V G w (Ab.frz1 a) u:=by
 unfold Ab.frz1;split;·exact h
 ·exact V.frz _ _ h
theorem VL.frz1{G:Gh}{w:World}:∀(as0:List AV)(us:List Value),VL G w as0 us->VL G w (as0.map Ab.frz1) us|[],[],_=>by simp[VL]|a::as0,u::us,h=>by simp only[VL,List.map_cons]at h⊢;exact⟨V.frz1 h.1,VL.frz1 as0 us h.2⟩|[],_::_,h=>by simp only[VL]at h|_::_,[],h=>by simp only[VL]at h
theorem V.frzT{G:Gh}{w:World}{a:AV}{u:Value}(h:V G w a u):V G w (Ab.frzT a) u:=by
 unfold Ab.frzT;split
 ·simp only[V]at h⊢;obtain⟨vs,rfl,hl⟩:=h;exact⟨vs,rfl,VL.frz1 _ _ hl⟩
 ·exact V.frz1 h
theorem V.frzN{G:Gh}{w:World}{keep:List Nat}{a:AV}{u:Value}(h:V G w a u):V G w (Ab.frzN keep a) u:=by
 unfold Ab.frzN;split;·rename_i es n o;cases hb:o.nlB with|false=>exact V.frzT h|true=>
  simp only[cond_true];split
  ·simp only[V]at h⊢;obtain⟨cap,hc,⟨h1,h2,h3,h4,_⟩|⟨b,off,h1,h2,ho⟩⟩:=h;·exact⟨cap,hc,.inl ⟨h1,h2,h3,h4,trivial⟩⟩
   ·cases o with|nl=>exact ho.elim|full=>exact⟨cap,hc,.inr ⟨b,off,h1,h2,ho⟩⟩|no=>cases hb|nn=>cases hb|fr=>cases hb|z=>cases hb|st _ _=>cases hb
  ·exact V.frzT h
 ·exact V.frzT h
def U4(P:Program)(pr:FuncId->List AV->yW->Option LA)(na:Nat)(fn:Func)(n:Nat)(m:Md)(fs:List Fr)(env:List AV)(s:yW)(os:List mS)(rs:List (Option Nat×Nat×Nat))(keep ks:List Nat)(own:Bool):Option (AV×List yM×List Ob):=match pK P pr n m fs env s os with
 |some (.fin x,env1,s1,[],ob)=>match x with|.exit _=>none|_=>match restamps rs env1 s1 with|none=>none|some (env',s')=>match Z2 P (look s'.H) env' fn.results.toList with
  |some r=>bif reB na keep ks s' then match dK keep s' keep,r.dobs keep with|some o1,some o2=>some (bif own then frzN keep (r.ren (uV keep) (place ks))else(r.ren (uV keep) (place ks)).frz,(sK (jA keep ks s').H 0 keep.length).map (yM.fzB own),ob++(o1++o2))|_,_=>none else none|none=>none
 |_=>none
def oO(P:Program)(na:Nb)(fn:Func)(res:AV)(H1:List yM)(nst:Nat):AX->List AV->yW->Prop:=λx env0 s0=>(x=.normal\/x=.ret)/\∃rs env s,restamps rs env0 s0=some (env,s)/\∃r keep ks,Z2 P (look s.H) env fn.results.toList=some r/\reB na.n keep ks s=true/\nM keep s keep/\r.fine (λi=>i∈keep)/\(∀G w u,V G w (r.ren (uV keep) (place ks)) u->V G w res u)/\(∃ow:Bool,H1=(sK (jA keep ks s).H 0 keep.length).map (yM.fzB ow))/\nst<=ks.length
theorem D1{P:Program}{pr:FuncId->List AV->yW->Option LA}(hp:rV P pr)(hm:P.follows .mixedOrders=true){na:Nb}{fn:Func}{n:Nat}{m:Md}{fs:List Fr}{env:List AV}{s:yW}{os:List mS}{rs:List (Option Nat×Nat×Nat)}{keep ks:List Nat}{own:Bool}{res:AV}{H1:List yM}{nst:Nat}{ob:List Ob}(h:U4 P pr na.n fn n m fs env s os rs keep ks own=some (res,H1,ob))(hob:yR P ob)(hn:nst<=ks.length):zBe P na (oO P na fn res H1 nst) fs env s m:=by
 unfold U4 at h;split at h
 ·rename_i x env1 s1 ob' hr;have key:(x=.normal\/x=.ret)/\∃env' s',restamps rs env1 s1=some (env',s')/\∃r,Z2 P (look s'.H) env' fn.results.toList=some r/\(bif reB na.n keep ks s' then match dK keep s' keep,r.dobs keep with|some o1,some o2=>some (bif own then frzN keep (r.ren (uV keep) (place ks))else(r.ren (uV keep) (place ks)).frz,(sK (jA keep ks s').H 0 keep.length).map (yM.fzB own),ob'++(o1++o2))|_,_=>none else none)=some (res,H1,ob):=by cases x with
   |exit i=>cases h|normal=>
    simp only at h;split at h;·cases h
    rename_i env' s' hrs;split at h;·rename_i r hr;exact⟨.inl rfl,env',s',hrs,r,hr,h⟩
    ·cases h|ret=>
    simp only at h;split at h;·cases h
    rename_i env' s' hrs;split at h;·rename_i r hr;exact⟨.inr rfl,env',s',hrs,r,hr,h⟩
    ·cases h
  obtain⟨hx,env',s',hrs,r,hres,h⟩:=key;cases hb:reB na.n keep ks s' with|false=>rw[hb]at h;cases h|true=>
   rw[hb]at h;simp only[cond_true]at h;split at h
   ·rename_i o1 o2 h1 h2;simp only[Option.some.injEq,Prod.mk.injEq]at h;obtain⟨e1,rfl,rfl⟩:=h;obtain⟨q1,q2⟩:=yR.append hob;obtain⟨q3,q4⟩:=yR.append q2;refine nD hp hm _ _ _ _ _ _ _ _ _ _ _ hr q1 ⟨hx,rs,env',s',hrs,r,keep,ks,hres,hb,aQ _ _ h1 q3,AV.dobs_ok _ _ h2 q4,λG w u hu=>?_,⟨own,rfl⟩,hn⟩;subst e1;cases own with|true=>exact V.frzN hu|false=>exact V.frz _ _ hu
   ·cases h
 ·cases h
theorem uG.body{P:Program}{f:FuncId}{fn:Func}{H0:List yM}{args:List AV}{res:AV}{H1:List yM}{nst:Nat}(hf:P.funcs[f]?=some fn)(hb:fn.body.isNone=false)(h:Dv P H0.length (tI fn) (args++List.replicate (fn.ntmps-args.length) (.val undef)) (aM H0) (oO P H0.length fn res H1 nst)):uG P f H0 args res H1 nst:=by intro G0 W cargs hB hR hv;cases hb':fn.body with|none=>rw[hb']at hb;cases hb|some c=>
 have hbod:tI fn=c:=by simp[tI,hb']
 rw[hbod]at h;refine calls_of_wp hf hb' ?_;have hlen:=VL.length _ _ hv;have hR0:mP G0 ⟨args++List.replicate (fn.ntmps-args.length) (.val undef),yX (vW 0) (aM H0)⟩ {tmps:=cargs++Array.replicate (fn.ntmps-cargs.size) undef,defers:=[]} W:=by
  refine⟨hR,?_,rfl⟩;have:cargs.size=args.length:=by rw[<-hlen];simp
  simp only[Array.toList_append,Array.toList_replicate,this];exact VL.append _ _ _ _ hv (VL.replicate _)
 have hok:(aM H0).Ok:=by refine⟨λi X hX=>?_,λk hk=>by simp[aM]at hk,(λk h=>by cases h),Nat.zero_le _⟩;have hX':look (iF H0 0) i=some X:=hX;rw[iG]at hX';simp only[Nat.zero_le,if_true,Nat.sub_zero]at hX';exact(List.getElem?_eq_some_iff.1 hX').1
 refine wp_mono (h G0 W hB G0 _ W (wV.refl G0 W) hok hR0) ?_;rintro e a' w'⟨x,env1,s1,G₂,rfl,⟨hx,rs,env',s',hrs,r,keep,ks,hres,hreB,hfb,hfr,hle,⟨ow,hH1⟩,hnst⟩,hE2,hok2,hR2⟩;obtain⟨G₁,hE1,hok',hR'⟩:=mP.restamps rs hrs hok2 hR2;have hE:=hE2.trans hE1;have hres':Z2 P (yX (vW 0) s').H env' fn.results.toList=some r:=by refine zLa (λi X hX=>?_) hres;rw[xV];exact hX
 obtain⟨u,hu,huv⟩:=zRR (fn:=fn) hR' hres';obtain⟨G',h1,h2,h3,h4⟩:=zEh hreB hfb hB.ρ hB.τ hE hR'.st;have hV:=hle _ _ _ (V.ren h4 r u hfr huv);have hend:a'.defers=[]/\∃v',(results fn a'.tmps).run P w'=.ok v' w'/\∃u G' s',Ending.returned v'=.returned u/\wV G0 W G' w'/\yK G' (yX (vW 0) s') w'/\V G' w' res u/\(∀i X,H1[i]?=some X->look s'.H i=some X)/\∀k,k<nst->s'.own.any (Nat.beq k)=true:=by
  refine⟨hR'.dfr,u,hu,u,G',zJH ow (jA keep ks s'),rfl,h1,h3.frz ow,hV,λi X hX=>?_,λk hk=>?_⟩
  ·rw[hH1,List.getElem?_map]at hX;cases hY:(sK (jA keep ks s').H 0 keep.length)[i]? with|none=>rw[hY]at hX;cases hX|some Y=>
   rw[hY]at hX;simp only[Option.map_some,Option.some.injEq]at hX;subst hX;show look (D0 ow (jA keep ks s').H) i=_;rw[iH];have:=R7 keep.length 0 i Y hY;simp only[Nat.zero_add]at this;rw[this];·rfl
   have hlt:i<keep.length:=by
    have:=(List.getElem?_eq_some_iff.1 hY).1;have hl:∀n j,(sK (jA keep ks s').H j n).length=n:=by intro n;induction n with|zero=>intro j;rfl|succ n ih=>intro j;simp[sK,ih]
    rwa[hl]at this
   show∃Y,look (nX s'.H keep ks keep 0) i=some Y;rw[kD];simp only[Nat.zero_le,if_true,Nat.sub_zero,List.getElem?_eq_getElem hlt,Option.map_some];exact⟨_,rfl⟩
  ·show(range' 0 ks.length).any (Nat.beq k)=true;rw[vV,mZ];omega
 rcases hx with rfl|rfl;·exact hend
 ·exact hend
abbrev ai(x:Int):AV:=.val (.int .i64 x)
abbrev ab(b:Bool):AV:=.val (.bool b)
abbrev at'(s:ByteArray):AV:=.val (.string s)
abbrev xF(x:Int):Int:=IntKind.i64.wrap x
abbrev kP(a b:Int):Int:=if b>a then b else a
abbrev zVD(a b:Int):Int:=if b<a then b else a
def zC{α:Type}(c:α->List AV)(l:List α):List AV:=l.flatMap c
inductive Tm where|mk(k n:Int)(sub:List Tm)
instance:Inhabited Tm:=⟨.mk 0 0 []⟩
def Tm.k:Tm->Int|.mk k _ _=>k
def Tm.n:Tm->Int|.mk _ n _=>n
def Tm.sub:Tm->List Tm|.mk _ _ l=>l
mutual def zA:Tm->List AV|.mk k n l=>[ai k,ai n,.sl (jC l) l.length .no]def jC:List Tm->List AV|[]=>[]|t::l=>zA t++jC l end
theorem zED:∀l:List Tm,jC l=zC zA l|[]=>rfl|t::l=>by simp only[jC,zED l,zC,List.flatMap_cons]
def R8(t:Tm):List AV:=[ai t.k,ai t.n,.sl (zC zA t.sub) t.sub.length .no]
theorem wC(t:Tm):zA t=R8 t:=by cases t;simp only[zA,R8,Tm.k,Tm.n,Tm.sub,zED]
def yY(t:Tm):AV:=.agg (R8 t)
def zY(x:Int):List AV:=[ai x]
abbrev U8:=Int
def K4(s:ByteArray):List AV:=[at' s]
structure yL where
 kind:Int
 name:ByteArray
 type:Tm
 body:Tm
 fam:Int
 place:Int
 pars:Int
 inds:Int
 level:Int
 cons:List Int
 fields:List Int
instance:Inhabited yL:=⟨⟨0,⟨#[]⟩,default,default,0,0,0,0,0,[],[]⟩⟩
def xE(e:yL):List AV:=[ai e.kind,at' e.name,ai e.type.k,ai e.type.n,.sl (zC zA e.type.sub) e.type.sub.length .no,ai e.body.k,ai e.body.n,.sl (zC zA e.body.sub) e.body.sub.length .no,ai e.fam,ai e.place,ai e.pars,ai e.inds,ai e.level,.sl (zC zY e.cons) e.cons.length .no,.sl (zC zY e.fields) e.fields.length .no]
def zVE(e:yL):AV:=.agg (xE e)
structure rX where
 is:Bool
 around:List Tm
 at':List Tm
instance:Inhabited rX:=⟨⟨false,[],[]⟩⟩
def aR(r:rX):List AV:=[ab r.is,.sl (zC zA r.around) r.around.length .no,.sl (zC zA r.at') r.at'.length .no]
def zYH(r:rX):AV:=.agg (aR r)
structure tQ where
 args:List Tm
 inds:List Tm
 recs:List rX
instance:Inhabited tQ:=⟨⟨[],[],[]⟩⟩
def pN(c:tQ):List AV:=[.sl (zC zA c.args) c.args.length .no,.sl (zC zA c.inds) c.inds.length .no,.sl (zC aR c.recs) c.recs.length .no]
def zVF(c:tQ):AV:=.agg (pN c)
structure xG where
 l:List yL
 rl:List yL
 parts:List tQ
 args:List Int
 own:List Int
instance:Inhabited xG:=⟨⟨[],[],[],[],[]⟩⟩
structure Got where
 t:Tm
 left:Int
 did:Bool
 e:Int
instance:Inhabited Got:=⟨⟨default,0,false,0⟩⟩
structure zYI where
 D:Int
 Level:Int
 C:Int
instance:Inhabited zYI:=⟨⟨0,0,0⟩⟩
structure yBw where
 t:Tm
 long:Bool
instance:Inhabited yBw:=⟨⟨default,false⟩⟩
structure yI where
 a:List Tm
 b:List Tm
instance:Inhabited yI:=⟨⟨[],[]⟩⟩
structure vB{α:Type}(c:α->List AV)(sz:Nat):Prop where
 len:∀x,(c x).length=sz
 data:∀x,AV.DataL (c x)one:∀x,(c x).all AV.one=true
theorem sL:∀{a b:List AV},AV.DataL a->AV.DataL b->AV.DataL (a++b)|[],_,_,h=>h|_::_,_,⟨h1,h2⟩,h=>⟨h1,sL h2 h⟩
theorem vK{α:Type}{c:α->List AV}(h:∀x,AV.DataL (c x)):∀l:List α,AV.DataL (zC c l)|[]=>trivial|x::l=>by rw[zC,List.flatMap_cons];exact sL (h x) (vK h l)
theorem D2{α:Type}{c:α->List AV}(h:∀x,(c x).all AV.one=true):∀l:List α,(zC c l).all AV.one=true|[]=>rfl|x::l=>by rw[zC,List.flatMap_cons,List.all_append,h x];exact D2 h l
theorem vL{α:Type}{c:α->List AV}{sz:Nat}(h:∀x,(c x).length=sz):∀l:List α,(zC c l).length=l.length*sz|[]=>by simp[zC]|x::l=>by have:=vL h l;unfold zC at this⊢;rw[List.flatMap_cons,List.length_append,h x,this,List.length_cons,Nat.succ_mul];omega
theorem jD{α:Type}{c:α->List AV}{sz:Nat}(h:∀x,(c x).length=sz):∀(i:Nat)(l:List α),(zC c l).drop (i*sz)=zC c (l.drop i)|0,l=>by simp|i+1,[]=>by simp[zC]|i+1,x::l=>by have:=jD h i l;unfold zC at this⊢;rw[List.flatMap_cons,Nat.succ_mul,Nat.add_comm,<-List.drop_drop,List.drop_left' (h x),this,List.drop_succ_cons]
theorem mT{α:Type}{c:α->List AV}{sz:Nat}(h:∀x,(c x).length=sz):∀(i:Nat)(l:List α),(zC c l).take (i*sz)=zC c (l.take i)|0,l=>by simp[zC]|i+1,[]=>by simp[zC]|i+1,x::l=>by have:=mT h i l;unfold zC at this⊢;rw[List.take_succ_cons,List.flatMap_cons,List.flatMap_cons,Nat.succ_mul,Nat.add_comm,List.take_append,List.take_of_length_le (by rw[h x];omega),h x,Nat.add_sub_cancel_left,this]
theorem fL{α:Type}{c:α->List AV}(l m:List α):zC c l++zC c m=zC c (l++m):=by unfold zC;rw[List.flatMap_append]
mutual theorem zJI:∀t:Tm,AV.DataL (zA t)|.mk k n l=>by rw[zA];exact⟨trivial,trivial,⟨trivial,zEE l⟩,trivial⟩theorem zEE:∀l:List Tm,AV.DataL (jC l)|[]=>trivial|t::l=>by rw[jC];exact sL (zJI t) (zEE l)end
theorem uX:vB zA 3:=⟨λx=>by rw[wC];rfl,zJI,λx=>by rw[wC];rfl⟩
theorem lA:vB zY 1:=⟨λ_=>rfl,λ_=>⟨trivial,trivial⟩,λ_=>rfl⟩
theorem zHQ:vB K4 1:=⟨λ_=>rfl,λ_=>⟨trivial,trivial⟩,λ_=>rfl⟩
theorem dT(l:List Tm):AV.DataL (zC zA l):=vK uX.data l
theorem dI(l:List Int):AV.DataL (zC zY l):=vK lA.data l
theorem zCT:vB xE 15:=⟨λ_=>rfl,λx=>⟨trivial,trivial,trivial,trivial,⟨trivial,dT _⟩,trivial,trivial,⟨trivial,dT _⟩,trivial,trivial,trivial,trivial,trivial,⟨trivial,dI _⟩,⟨trivial,dI _⟩,trivial⟩,λ_=>rfl⟩
theorem zCU:vB aR 3:=⟨λ_=>rfl,λ_=>⟨trivial,⟨trivial,dT _⟩,⟨trivial,dT _⟩,trivial⟩,λ_=>rfl⟩
theorem dR(l:List rX):AV.DataL (zC aR l):=vK zCU.data l
theorem zCV:vB pN 3:=⟨λ_=>rfl,λ_=>⟨⟨trivial,dT _⟩,⟨trivial,dT _⟩,⟨trivial,dR _⟩,trivial⟩,λ_=>rfl⟩
theorem dE(l:List yL):AV.DataL (zC xE l):=vK zCT.data l
theorem dC(l:List tQ):AV.DataL (zC pN l):=vK zCV.data l
def zV{α:Type}(l:List α)(i:Int):Option α:=if 0<=i then l[i.toNat]? else none
theorem mU{α:Type}{l:List α}{i:Int}{x:α}(h:zV l i=some x):0<=i/\i<l.length/\l[i.toNat]?=some x:=by
 unfold zV at h;split at h
 ·have:=(List.getElem?_eq_some_iff.1 h).1;exact⟨by assumption,by omega,h⟩
 ·cases h
theorem zCW{α:Type}{c:α->List AV}{sz:Nat}(hc:∀x,(c x).length=sz){l:List α}{i:Nat}{x:α}(h:l[i]?=some x):(zC c l).drop (i*sz)=c x++zC c (l.drop (i+1)):=by rw[jD hc];obtain⟨h1,h2⟩:=List.getElem?_eq_some_iff.1 h;rw[List.drop_eq_getElem_cons h1,zC,List.flatMap_cons,h2];rfl
theorem gJ{P:Program}{α:Type}{c:α->List AV}{sz:Nat}(hc:vB c sz){t e:TypeId}{ie:TypeInfo}(ht:P.underlying t=some (.slice e))(hi:P.info? e=some ie)(hs:ie.size=sz){l:List α}{i:Int}{o:Own}{k:IntKind}{x:α}(h:zV l i=some x):xM P t (.sl (zC c l) l.length o) (.val (.int k i))=some (.ip (c x++zC c (l.drop (i.toNat+1)))):=by obtain⟨h0,h1,h2⟩:=mU h;subst hs;unfold xM;simp only[ht,hi];rw[if_pos ⟨h0,h1⟩,if_pos (by rw[vL hc.len];simp),zCW hc.len h2]
theorem zOo{P:Program}{t e n:Nat}{q:Bool×Nat}(ht:P.underlying t=some (.array n e))(hi:tsz P e=some q)(hq:q=(false,1)){l:List Int}{i:Int}{k:IntKind}{x:Int}(hl:l.length=n)(h:zV l i=some x):iA P t (.agg (zC zY l)) (.val (.int k i))=some (ai x):=by obtain⟨h0,h1,h2⟩:=mU h;subst hq;unfold iA;simp only[ht,hi];rw[if_pos ⟨h0,by omega⟩,zCW lA.len h2];rfl
def kE{α:Type}(l:List α)(a b:Int):Option (List α):=if 0<=a/\a<=b/\b<=l.length then some ((l.drop a.toNat).take (b-a).toNat)else none
theorem Z9{α:Type}{l r:List α}{a b:Int}(h:kE l a b=some r):0<=a/\a<=b/\b<=l.length/\r=(l.drop a.toNat).take (b-a).toNat:=by
 unfold kE at h;split at h;·cases h;rename_i q;exact⟨q.1,q.2.1,q.2.2,rfl⟩
 ·cases h
theorem w5{P:Program}{α:Type}{c:α->List AV}{sz:Nat}(hc:vB c sz){t e:TypeId}{ie:TypeInfo}(ht:P.underlying t=some (.slice e))(hi:P.info? e=some ie)(hs:ie.size=sz){l r:List α}{a b:Int}{lo hi':Option AV}(h:kE l a b=some r)(hlo:∀h,xX h 0 lo=if 0<=a/\a<=h then some a.toNat else none)(hhi:xX l.length l.length hi'=if 0<=b/\b<=l.length then some b.toNat else none):wW P t (.sl (zC c l) l.length .no) lo hi' none=some (.sl (zC c r) r.length .no):=by
 obtain⟨h0,h1,h2,rfl⟩:=Z9 h;subst hs;have e1:((b-a).toNat)=b.toNat-a.toNat:=by omega
 have hcut:Own.cut .no a.toNat (b.toNat-a.toNat) (Nat.beq b.toNat l.length) false=.no:=by unfold Own.cut;simp
 unfold wW;simp only[ht,hi,amx,hhi];rw[if_pos ⟨by omega,h2⟩];simp only[hlo];rw[if_neg (by simp),if_pos ⟨h0,by omega⟩];simp only;rw[if_pos (by rw[vL hc.len];simp),jD hc.len,mT hc.len,e1];have hl:((l.drop a.toNat).take (b.toNat-a.toNat)).length=b.toNat-a.toNat:=by simp;omega
 rw[hl,Bool.false_and,hcut]
theorem zCX{P:Program}{α:Type}{c:α->List AV}{sz:Nat}(hc:vB c sz){t e:TypeId}{ie:TypeInfo}(ht:P.underlying t=some (.slice e))(hi:P.info? e=some ie)(hs:ie.size=sz){l r:List α}{a:Int}{k:IntKind}(h:kE l a l.length=some r):wW P t (.sl (zC c l) l.length .no) (some (.val (.int k a))) none none=some (.sl (zC c r) r.length .no):=w5 hc ht hi hs h (λh=>rfl) (by simp[xX])
theorem zHR{P:Program}{α:Type}{c:α->List AV}{sz:Nat}(hc:vB c sz){t e:TypeId}{ie:TypeInfo}(ht:P.underlying t=some (.slice e))(hi:P.info? e=some ie)(hs:ie.size=sz){l r:List α}{b:Int}{k:IntKind}(h:kE l 0 b=some r):wW P t (.sl (zC c l) l.length .no) none (some (.val (.int k b))) none=some (.sl (zC c r) r.length .no):=w5 hc ht hi hs h (λh=>by simp[xX]) rfl
theorem zEF{P:Program}{α:Type}{c:α->List AV}{sz:Nat}(hc:vB c sz){t e:TypeId}{ie:TypeInfo}(ht:P.underlying t=some (.slice e))(hi:P.info? e=some ie)(hs:ie.size=sz){l r:List α}{a b:Int}{lo hi':Option AV}{o:Own}(h:kE l a b=some r)(hlo:∀h,xX h 0 lo=if 0<=a/\a<=h then some a.toNat else none)(hhi:xX l.length l.length hi'=if 0<=b/\b<=l.length then some b.toNat else none):∃a0,wW P t (.sl (zC c l) l.length o) lo hi' none=some a0/\a0.frz=.sl (zC c r) r.length .no:=by
 obtain⟨h0,h1,h2,rfl⟩:=Z9 h;subst hs;have e1:((b-a).toNat)=b.toNat-a.toNat:=by omega
 refine⟨.sl (zC c ((l.drop a.toNat).take (b-a).toNat)) ((l.drop a.toNat).take (b-a).toNat).length (o.cut a.toNat (b.toNat-a.toNat) (Nat.beq b.toNat l.length) false),?_,rfl⟩;unfold wW;simp only[ht,hi,amx,hhi];rw[if_pos ⟨by omega,h2⟩];simp only[hlo];rw[if_neg (by simp),if_pos ⟨h0,by omega⟩];simp only;rw[if_pos (by rw[vL hc.len];simp),jD hc.len,mT hc.len,e1];have hl:((l.drop a.toNat).take (b.toNat-a.toNat)).length=b.toNat-a.toNat:=by simp;omega
 rw[hl,Bool.false_and]
theorem zEG{P:Program}{α:Type}{c:α->List AV}{sz:Nat}(hc:vB c sz){t e:TypeId}{ie:TypeInfo}(ht:P.underlying t=some (.slice e))(hi:P.info? e=some ie)(hs:ie.size=sz){l r:List α}{b:Int}{k:IntKind}{o:Own}(h:kE l 0 b=some r):∃a0,wW P t (.sl (zC c l) l.length o) none (some (.val (.int k b))) none=some a0/\a0.frz=.sl (zC c r) r.length .no:=zEF hc ht hi hs h (λh=>by simp[xX]) rfl
def yZ{α:Type}(B:Nat)(l m:List α):Option (List α):=if(l.length+m.length)*B<=140737488355328 then some (l++m)else none
theorem qY{α:Type}{B:Nat}{l m r:List α}(h:yZ B l m=some r):(l.length+m.length)*B<=140737488355328/\r=l++m:=by
 unfold yZ at h;split at h;·cases h;exact⟨by assumption,rfl⟩
 ·cases h
theorem zEH{P:Program}{α:Type}{c:α->List AV}{sz:Nat}(hc:vB c sz){t e:TypeId}{ie:TypeInfo}{z:Value}(ht:P.underlying t=some (.slice e))(hi:P.info? e=some ie)(hs:ie.size=sz)(hz:ie.zero=some z)(hzs:z.cells.size=sz)(h1:1<=sz){B:Nat}(hb:ie.bytes=B)(hB:1<=B){l m r:List α}(h:yZ B l m=some r){o o2:Own}{s:yW}{ev:Operand->AV}:mG P t t ev (.sl (zC c l) l.length o) (.sl (zC c m) m.length o2) s=bif Nat.beq m.length 0 then some {ev:=ev,v:=.sl (zC c l) l.length o}else match o with|.full=>some {ev:=ev,ns:=s.ns,new:=1,v:=.sl (zC c r) r.length (.st s.ns sz)}|.nl=>some {ev:=ev,ns:=s.ns,new:=1,v:=.sl (zC c r) r.length (.st s.ns sz)}|.st k sz'=>bif s.own.any (Nat.beq k)&&Nat.beq sz' sz then some {ev:=ev,use:=[k],ns:=s.ns,new:=1,v:=.sl (zC c r) r.length (.st s.ns sz)}else none|_=>none:=by
 obtain⟨h2,rfl⟩:=qY h;subst hs;subst hb;unfold mG;simp only[ht,hi,hz];have h3:l.length+m.length<=4611686018427387904:=by have:(l.length+m.length)*1<=(l.length+m.length)*ie.bytes:=Nat.mul_le_mul_left _ hB;omega
 have hcond:(Nat.beq t t&&Nat.beq (zC c l).length (l.length*ie.size)&&Nat.beq (zC c m).length (m.length*ie.size)&&Nat.ble 1 ie.size&&Nat.beq z.cells.size ie.size&&Nat.ble ((l.length+m.length)*ie.bytes) 140737488355328&&Nat.ble (l.length+m.length) 4611686018427387904&&(zC c m).all AV.one)=true:=by simp only[Bool.and_eq_true];exact⟨⟨⟨⟨⟨⟨⟨by simp,by rw[vL hc.len];simp⟩,by rw[vL hc.len];simp⟩,by simpa using h1⟩,by rw[hzs];simp⟩,by simpa using h2⟩,by simpa using h3⟩,D2 hc.one m⟩
 rw[hcond];simp only[cond_true,fL,List.length_append];cases o<;>rfl
theorem qI{P:Program}{α:Type}{c:α->List AV}{sz:Nat}(hc:vB c sz){t e:TypeId}{ie:TypeInfo}{z:Value}(ht:P.underlying t=some (.slice e))(hi:P.info? e=some ie)(hs:ie.size=sz)(hz:ie.zero=some z)(hzs:z.cells.size=sz)(h1:1<=sz){B:Nat}(hb:ie.bytes=B)(hB:1<=B){l m r:List α}(h:yZ B l m=some r)(hm:m.length≠0):Ob.ok P (.app t t (zC c l) (zC c m) (zC c r) l.length m.length r.length sz false):=by intro ev s o o2;rw[zEH hc ht hi hs hz hzs h1 hb hB h];cases hn:Nat.beq m.length 0 with|true=>exact absurd (Nat.eq_of_beq_eq_true hn) hm|false=>cases o<;>rfl
theorem dM{P:Program}{α:Type}{c:α->List AV}{sz:Nat}(hc:vB c sz){t e:TypeId}{ie:TypeInfo}{z:Value}(ht:P.underlying t=some (.slice e))(hi:P.info? e=some ie)(hs:ie.size=sz)(hz:ie.zero=some z)(hzs:z.cells.size=sz)(h1:1<=sz){B:Nat}(hb:ie.bytes=B)(hB:1<=B){l m r:List α}(h:yZ B l m=some r)(hm:m.length=0):Ob.ok P (.app t t (zC c l) (zC c m) (zC c r) l.length m.length r.length sz true):=by intro ev s o o2;rw[zEH hc ht hi hs hz hzs h1 hb hB h];obtain⟨_,rfl⟩:=qY h;rw[List.length_eq_zero_iff.1 hm,List.append_nil];rfl
def zH{α:Type}(f:Nat->Option α)(r:α):Prop:=∃n,∀q,n<=q->f q=some r
section
variable{α β:Type}{f:Nat->Option α}{r a:α}{b:β}
theorem zH.mk(h:∀q,f q=some r):zH f r:=⟨0,λq _=>h q⟩
theorem zH.ret{r:α}:zH (λ_=>some r) r:=⟨0,λ_ _=>rfl⟩
theorem zH.succ(h:zH (λq=>f (q+1)) r):zH f r:=by obtain⟨n,h⟩:=h;refine⟨n+1,λq hq=>?_⟩;obtain⟨k,rfl⟩:∃k,q=k+1:=⟨q-1,by omega⟩;exact h k (by omega)
theorem zH.bind{k:Nat->α->Option β}(h:zH f a)(g:zH (λq=>k q a) b):zH (λq=>f q>>=k q) b:=by obtain⟨n,h⟩:=h;obtain⟨m,g⟩:=g;refine⟨max n m,λq hq=>?_⟩;dsimp only;rw[h q (by omega)];exact g q (by omega)
theorem zH.pure{x:Option α}{k:Nat->α->Option β}(h:x=some a)(g:zH (λq=>k q a) b):zH (λq=>x>>=k q) b:=by subst h;exact g
theorem zH.ifT{c:Bool}{g:Nat->Option α}(h:c=true)(k:zH f r):zH (λq=>if c=true then f q else g q) r:=by simpa[h]using k
theorem zH.ifF{c:Bool}{g:Nat->Option α}(h:c=false)(k:zH g r):zH (λq=>if c=true then f q else g q) r:=by simpa[h]using k
theorem zH.iff{c:Bool}{g:Nat->Option α}(h:c=true->zH f r)(k:c=false->zH g r):zH (λq=>if c=true then f q else g q) r:=by
 cases c;·simpa using k rfl
 ·simpa using h rfl
theorem zH.det(h:zH f r)(k:zH f a):r=a:=by obtain⟨n,h⟩:=h;obtain⟨m,k⟩:=k;have:=h (max n m) (by omega);rw[k _ (by omega)]at this;exact(Option.some.inj this).symm
theorem zH.at(h:zH f r):∃q,f q=some r:=by obtain⟨n,h⟩:=h;exact⟨n,h n (Nat.le_refl _)⟩
theorem zH.eq{s:α}(h:zH f r)(e:r=s):zH f s:=e▸h
end
def zG{α:Type}(f:Nat->Option α)(P:α->Prop):Prop:=∃r,zH f r/\P r
section
variable{α β:Type}{f:Nat->Option α}{P:α->Prop}{Q:β->Prop}
theorem zH.tot{r:α}(h:zH f r)(k:P r):zG f P:=⟨r,h,k⟩
theorem zG.ret{r:α}(k:P r):zG (λ_=>some r) P:=⟨r,zH.ret,k⟩
theorem zG.succ(h:zG (λq=>f (q+1)) P):zG f P:=by obtain⟨r,h,k⟩:=h;exact⟨r,h.succ,k⟩
theorem zG.bind{k:Nat->α->Option β}(h:zG f P)(g:∀a,P a->zG (λq=>k q a) Q):zG (λq=>f q>>=k q) Q:=by obtain⟨a,h,p⟩:=h;obtain⟨b,h2,k⟩:=g a p;exact⟨b,h.bind h2,k⟩
theorem zG.pure{x:Option α}{a:α}{k:Nat->α->Option β}(h:x=some a)(g:zG (λq=>k q a) Q):zG (λq=>x>>=k q) Q:=by subst h;exact g
theorem zG.ite{c:Bool}{g:Nat->Option α}(h:c=true->zG f P)(k:c=false->zG g P):zG (λq=>if c=true then f q else g q) P:=by
 cases c;·simpa using k rfl
 ·simpa using h rfl
theorem zG.mono{P':α->Prop}(h:zG f P)(k:∀r,P r->P' r):zG f P':=by obtain⟨r,h,p⟩:=h;exact⟨r,h,k r p⟩
end
theorem yQ{x:Int}(h0:-9223372036854775808<=x)(h1:x<=9223372036854775807):xF x=x:=by show IntKind.i64.wrap x=x;exact IntWalk.i64_in x ⟨h0,h1⟩
theorem zW(v:Nat)(h:v<9223372036854775807):xF ((v:Int)+1)=((v+1:Nat):Int):=by rw[yQ (by omega) (by omega)];simp
section
variable{α:Type}{l:List α}{v:Nat}{x:α}{r:List α}
theorem yF(h:l.drop v=x::r):v<l.length:=by
 rcases Nat.lt_or_ge v l.length with h1|h1;·exact h1
 ·rw[List.drop_eq_nil_of_le h1]at h;cases h
theorem yA(h:l.drop v=x::r):decide ((v:Int)<(l.length:Int))=true:=by have:=yF h;simp;exact this
theorem yB(h:l.drop v=[]):decide ((v:Int)<(l.length:Int))=false:=by have:l.length<=v:=List.drop_eq_nil_iff.1 h;simp;exact this
theorem zZ(h:l.drop v=x::r):zV l (v:Int)=some x:=by
 have h1:=yF h;have:l[v]?=some x:=by have:=congrArg (λz=>z[0]?) h;simpa using this
 unfold zV;rw[if_pos (by omega)];simpa using this
theorem zS(h:l.drop v=x::r):l.drop (v+1)=r:=by have:=congrArg List.tail h;simpa using this
end
theorem yG{α:Type}{B:Nat}{l m:List α}(h:(l.length+m.length)*B<=140737488355328):yZ B l m=some (l++m):=by unfold yZ;rw[if_pos h]
mutual def Tm.nodes:Tm->Nat|.mk _ _ l=>1+xU l def xU:List Tm->Nat|[]=>0|t::l=>t.nodes+xU l end
mutual def Tm.high:Tm->Nat|.mk _ _ l=>1+pO l def pO:List Tm->Nat|[]=>0|t::l=>max t.high (pO l)end
mutual def Tm.Ok:Tm->Prop|.mk _ _ l=>l.length<9223372036854775808/\kQ l def kQ:List Tm->Prop|[]=>True|t::l=>t.Ok/\kQ l end
mutual def szT:Tm->Int->Int|.mk _ _ l,h=>szL l (h+1)def szL:List Tm->Int->Int|[],h=>h|t::l,h=>if h>8192 then h else szL l (szT t h)end
mutual theorem zEI:∀(t:Tm)(h:Int),0<=h->h<=8192->h+1<=szT t h/\szT t h<=8193|.mk _ _ l,h,h0,h1=>by rw[szT];exact zUQ l (h+1) (by omega) (by omega)theorem zUQ:∀(l:List Tm)(h:Int),0<=h->h<=8193->h<=szL l h/\szL l h<=8193
 |[],h,h0,h1=>by rw[szL];omega|t::l,h,h0,h1=>by
  rw[szL];split;·omega
  ·have:=zEI t h h0 (by omega);have:=zUQ l (szT t h) (by omega) (by omega);omega end
theorem sX(t:Tm):1<=t.nodes:=by cases t;rw[Tm.nodes];omega
mutual theorem zOn:∀(t:Tm)(h:Int),0<=h->h<=8192->(h+t.nodes<=8192->szT t h=h+t.nodes)/\(8192<h+t.nodes->szT t h=8193)
 |.mk _ _ l,h,h0,h1=>by
  rw[szT,Tm.nodes];have:=zOm l (h+1) (by omega) (by omega);constructor;·intro h2;rw[this.1 (by omega)];omega
  ·intro h2;exact this.2 (by omega)theorem zOm:∀(l:List Tm)(h:Int),0<=h->h<=8193->(h+xU l<=8192->szL l h=h+xU l)/\(8192<h+xU l->szL l h=8193)
 |[],h,h0,h1=>by rw[szL,xU];omega|t::l,h,h0,h1=>by
  rw[szL,xU];have hp:=sX t;split;·omega
  ·have ht:=zOn t h h0 (by omega);have hb:=zEI t h h0 (by omega);have hl:=zOm l (szT t h) (by omega) (by omega);constructor
   ·intro h2;have e:=ht.1 (by omega);rw[e]at hl⊢;rw[hl.1 (by omega)];omega
   ·intro h2;by_cases h3:h+t.nodes<=8192
    ·have e:=ht.1 h3;rw[e]at hl⊢;exact hl.2 (by omega)
    ·exact hl.2 (by rw[ht.2 (by omega)];omega)end
mutual def dpT:Tm->Int->Int|.mk _ _ l,a=>if a>128 then a else dpL l a a def dpL:List Tm->Int->Int->Int|[],_,m=>m|t::l,a,m=>dpL l a (kP m (dpT t (a+1)))end
mutual theorem zUR:∀(t:Tm)(a:Int),0<=a->a<=129->a<=dpT t a/\dpT t a<=129
 |.mk _ _ l,a,h0,h1=>by
  rw[dpT];split;·omega
  ·exact zUS l a a h0 (by omega) (by omega) (by omega)theorem zUS:∀(l:List Tm)(a m:Int),0<=a->a<=128->a<=m->m<=129->m<=dpL l a m/\dpL l a m<=129|[],a,m,h0,h1,h2,h3=>by rw[dpL];omega|t::l,a,m,h0,h1,h2,h3=>by rw[dpL];have:=zUR t (a+1) (by omega) (by omega);have:=zUS l a (kP m (dpT t (a+1))) h0 h1 (by unfold kP;split<;>omega) (by unfold kP;split<;>omega);unfold kP at this⊢;split at this<;>split<;>omega end
mutual theorem zOl:∀(t:Tm)(a:Int),0<=a->a<=129->(a+t.high<=129->dpT t a=a+t.high-1)/\(129<a+t.high->dpT t a=129)
 |.mk _ _ l,a,h0,h1=>by
  rw[dpT,Tm.high];split;·omega
  ·have:=zOk l a a h0 (by omega) (by omega) (by omega);constructor;·intro h2;rw[this.1 (by omega) (by omega)];omega
   ·intro h2;exact this.2 (.inr (by omega))theorem zOk:∀(l:List Tm)(a m:Int),0<=a->a<=128->a<=m->m<=129->(m<=128->a+pO l<=128->dpL l a m=max m (a+pO l))/\((m=129\/128<a+pO l)->dpL l a m=129)
 |[],a,m,h0,h1,h2,h3=>by rw[dpL,pO];omega|t::l,a,m,h0,h1,h2,h3=>by
  rw[dpL,pO];have ht:=zOl t (a+1) (by omega) (by omega);have hb:=zUR t (a+1) (by omega) (by omega);have hm:a<=kP m (dpT t (a+1))/\kP m (dpT t (a+1))<=129:=by unfold kP;split<;>omega
  have hl:=zOk l a (kP m (dpT t (a+1))) h0 h1 hm.1 hm.2;have hh:1<=t.high:=by cases t;rw[Tm.high];omega
  constructor
  ·intro h4 h5;have e:=ht.1 (by omega);rw[e]at hl⊢;have hi:kP m (a+1+t.high-1)=max m (a+t.high):=by unfold kP;split<;>omega
   rw[hi]at hl⊢;rw[hl.1 (by omega) (by omega)];omega
  ·intro h4;refine hl.2 ?_;rcases h4 with h4|h4;·exact .inl (by unfold kP;split<;>omega)
   ·by_cases h5:128<a+pO l;·exact .inr h5
    ·refine .inl ?_;have e:dpT t (a+1)=129:=by
      by_cases h6:a+1+t.high<=129;·omega
      ·exact ht.2 (by omega)
     rw[e];unfold kP;split<;>omega end
def D3(t:Tm):Bool:=decide (1<=t.k)&&decide (t.k<=8)&&decide (0<=t.n)&&(if t.k=3\/t.k=4\/t.k=5 then decide (t.sub.length=2)&&decide (t.n<=0)else if t.k=7 then decide (t.sub.length=1)&&decide (t.n<=1048576)&&(t.sub.head?.any λx=>x.k==2)else decide (t.sub.length=0)&&(if t.k=2 then decide (t.n<=7)else decide (t.n<=1048576)))
theorem sY{t:Tm}(h:D3 t=true):1<=t.k/\t.k<=8/\0<=t.n/\t.n<=1048576/\t.sub.length<=2/\(t.k=3\/t.k=4\/t.k=5->t.sub.length=2/\t.n<=0)/\(t.k=7->∃x,t.sub=[x]/\x.k=2)/\(t.k=1\/t.k=2\/t.k=6\/t.k=8->t.sub=[])/\(t.k=2->t.n<=7):=by
 unfold D3 at h;revert h;generalize t.k=k;generalize t.n=n;generalize t.sub=l;intro h;simp only[Bool.and_eq_true,decide_eq_true_eq]at h;obtain⟨⟨⟨h1,h2⟩,h3⟩,h4⟩:=h;split at h4;·simp only[Bool.and_eq_true,decide_eq_true_eq]at h4;refine⟨h1,h2,h3,by omega,by omega,λ_=>h4,by omega,by omega,by omega⟩
 ·split at h4
  ·simp only[Bool.and_eq_true,decide_eq_true_eq]at h4;obtain⟨⟨h5,h6⟩,h7⟩:=h4;obtain⟨x,rfl⟩:∃x,l=[x]:=by rcases l with _|⟨x,_|⟨y,l⟩⟩<;>simp at h5;exact⟨x,rfl⟩
   refine⟨h1,h2,h3,h6,by simp,by omega,λ_=>⟨x,rfl,by simpa using h7⟩,by omega,by omega⟩
  ·simp only[Bool.and_eq_true,decide_eq_true_eq]at h4;have hl:l=[]:=List.length_eq_zero_iff.1 h4.1;refine⟨h1,h2,h3,?_,by omega,by omega,by omega,λ_=>hl,λh8=>?_⟩
   ·have:=h4.2;split at this<;>(simp at this;omega)
   ·have:=h4.2;rw[if_pos h8]at this;simpa using this
mutual def xZ:Tm->Bool|.mk k n l=>D3 (.mk k n l)&&pP l def pP:List Tm->Bool|[]=>true|t::l=>xZ t&&pP l end
def zF(t:Tm):Bool:=decide (t.nodes<=8192)&&decide (t.high<=128)&&xZ t
def w6(k:Int)(i:Nat):Int:=if i=1/\(k=3\/k=4)then 1 else 0
mutual def gN:Tm->Int->Int|.mk k n l,b=>if k=1 then max 0 (n+1-b)else K5 l k 0 b def K5:List Tm->Int->Nat->Int->Int|[],_,_,_=>0|t::l,k,i,b=>max (gN t (b+w6 k i)) (K5 l k (i+1) b)end
mutual def rY:Tm->Int->Int->List Int|.mk k n l,a,b=>(if k=a\/k=b then[n]else[])++D4 l a b def D4:List Tm->Int->Int->List Int|[],_,_=>[]|t::l,a,b=>rY t a b++D4 l a b end
theorem tP.extern{P:Program}{f:FuncId}{args:List AV}{la:LA}(h:∀(G:Gh)(σ:wT)(w:World)(cargs:Array Value),yK G σ w->VL G w args cargs.toList->la.can σ->∃u w' G',(callFunc f cargs).run P w=.ok (.value u) w'/\wV G w G' w'/\yK G' (la.app σ) w'/\V G' w' la.v u):tP P f args la:=by intro dst type pos after guard g cargs argTypes first caps ev hg hargs;subst hargs;refine xW.value (la:={la with ev:=ev}) λG σ w a hR hx hc=>?_;have hgx:=hx g (by simp[Op.operands,Call.operands]);have hg':(LA.ev {la with ev:=ev}) g=.clo f first caps:=hg;rw[hg']at hgx;simp only[V]at hgx;obtain⟨l,r,hge,hl,hr⟩:=hgx;have hargs:VL G w (cargs.toList.map ev) (cargs.toList.map a.eval):=VL.mapv _ λp hp=>hx p (by simp[Op.operands,Call.operands];exact .inr (by simpa using hp));obtain⟨u,w',G',h1,h2,h3,h4⟩:=h G σ w (l.toArray++cargs.map a.eval++r.toArray) hR (by have:=VL.append _ _ _ _ (VL.append _ _ _ _ hl hargs) hr;simpa using this) ⟨hc.rd,hc.wr,hc.al,hc.use,hc.ns,hc.hole,hc.rc,hc.kp⟩;refine⟨u,w',G',?_,h2,h3,h4⟩;simp only[execOp,resolve,hge,Deferred.ofValue,Sem.run_bind,Sem.run_pure,Result.andThen_ok,invoke,h1]
theorem zRW{cur:Array Value}{off:Nat}{v:Value}:cur.setIfInBounds off v=(cur.toList.set off v).toArray:=by apply Array.ext';simp
theorem zCY{G:Gh}{σ:wT}{w:World}(hR:yK G σ w){i off:Nat}{cs:List AV}(hX:σ.H i=some (.cells cs)){a:AV}(ha:cs[off]?=some a){u:Value}(hu:V G w (.mp i off) u):∃b vs T x,G.ρ i=some b/\u=.pointer (some ⟨b,off,none⟩)/\w.heap[b]?=some (.cells vs T (0,0))/\gT G w cs vs.toList/\w.cell? ⟨b,off,none⟩=some x/\w.frozen? ⟨b,off,none⟩=false/\V G w a x:=by
 obtain⟨b,hb,_,hblk⟩:=hR.look hX;obtain⟨vs,T,hh,hl⟩:=hblk;simp only[V]at hu;obtain⟨b',hb',rfl⟩:=hu;rw[hb]at hb';cases hb';obtain⟨x,hx,hv⟩:=hl.get off a ha;refine⟨b,vs,T,x,hb,rfl,hh,hl,?_,?_,hv⟩;·simp only[World.cell?,hh];simpa using hx
 ·simp[World.frozen?,hh]
theorem zEJ{G:Gh}{w:World}{a b:AV}{l:Array Value}(h:VL G w [a,b] l.toList):∃u v,l=#[u,v]/\V G w a u/\V G w b v:=by obtain⟨l⟩:=l;match l,h with|[],h=>simp only[VL]at h|[_],h=>simp only[VL,and_false]at h|[u,v],h=>simp only[VL,and_true]at h;exact⟨u,v,rfl,h⟩|_::_::_::_,h=>simp only[VL,and_false]at h
theorem zOj{G:Gh}{w:World}{a:AV}{l:Array Value}(h:VL G w [a] l.toList):∃u,l=#[u]/\V G w a u:=by obtain⟨l⟩:=l;match l,h with|[],h=>simp only[VL]at h|[u],h=>simp only[VL,and_true]at h;exact⟨u,rfl,h⟩|_::_::_,h=>simp only[VL,and_false]at h
def qQ(i off:Nat)(cs:List AV)(v:Value):LA:={ev:=λ_=>.val undef,wr:=[(i,.cells cs,.cells (cs.set off (.val v)))],v:=.tup []}
def lB(i:Nat)(cs:List AV)(v:AV):LA:={ev:=λ_=>.val undef,rd:=[(i,.cells cs)],v:=v}
def gK(i off:Nat)(cs:List AV)(v:Value):LA:={ev:=λ_=>.val undef,wr:=[(i,.cells cs,.cells (cs.set off (.val v)))],v:=.val v}
theorem zOi{G:Gh}{σ:wT}{w:World}(hR:yK G σ w){i off b:Nat}{cs:List AV}{vs:Array Value}{T:TypeId}(hb:G.ρ i=some b)(hh:w.heap[b]?=some (.cells vs T (0,0)))(hl:gT G w cs vs.toList)(hi:off<cs.length)(hX:σ.H i=some (.cells cs))(v:Value):wV G w G (w.setCell ⟨b,off,none⟩ v)/\yK G ⟨up σ.H i (.cells (cs.set off (.val v))),σ.own,σ.ns⟩ (w.setCell ⟨b,off,none⟩ v):=by
 have e:w.setCell ⟨b,off,none⟩ v=w.setRow b (vs.toList.set off v).toArray:=by have:=setCell_eq_setRow w b off vs T (0,0) v hh;rw[this,zRW]
 rw[e];exact⟨wV.setRow hR hb _ (λo T' e=>by rw[hh]at e;cases e;simp),hR.setRow hb (by rw[hX];simp) _ _ (by simp) hh (hl.set off hi _ _ (by simp[V]))⟩
section
variable{P:Program}{f:FuncId}{fn:Func}(hf:P.funcs[f]?=some fn)(hname:(fn.name=="runtime.NumGoroutine")=false)(hb:fn.body.isNone=true)(hn:Extern.findNext fn=none)
include hf hname hb hn
theorem zHT(he:Extern.find fn=some Extern.Atomic.storeT){i off:Nat}{k:IntKind}{y:Int}{cs:List AV}{a:AV}(ha:cs[off]?=some a):tP P f [.mp i off,.val (.int k y)] (qQ i off cs (.int k y)):=by refine tP.extern λG σ w cargs hR hv hc=>?_;obtain⟨u1,u2,rfl,h1,h2⟩:=zEJ hv;simp only[V]at h2;subst h2;have hX:=hc.wr _ _ _ (List.mem_singleton.2 rfl);obtain⟨b,vs,T,x,hbb,rfl,hh,hl,hcell,hfr,_⟩:=zCY hR hX ha h1;obtain⟨hE,hR'⟩:=zOi hR (off:=off) hbb hh hl (List.getElem?_eq_some_iff.1 ha).1 hX (.int k y);refine⟨_,_,G,run_call_store hf hname hb hn he hcell hfr,hE,?_,by simp only[qQ,V];exact⟨[],rfl,by simp[VL]⟩⟩;rw[qQ,aJ];exact hR'
theorem zLG(k:IntKind)(he:Extern.find fn=some (Extern.Atomic.loadT (.int k))){i off:Nat}{x:Int}{cs:List AV}(ha:cs[off]?=some (.val (.int k x))):tP P f [.mp i off] (lB i cs (.val (.int k x))):=by refine tP.extern λG σ w cargs hR hv hc=>?_;obtain⟨u1,rfl,h1⟩:=zOj hv;have hX:=hc.rd _ _ (List.mem_singleton.2 rfl);obtain⟨b,vs,T,x',hbb,rfl,hh,hl,hcell,hfr,hx⟩:=zCY hR hX ha h1;simp only[V]at hx;subst hx;refine⟨_,w,G,run_call_load hf hname hb hn k he hcell,wV.refl G w,?_,by simp[lB,V]⟩;show yK G ((wT.mk σ.H σ.own σ.ns).stamps [] 0) w;rw[wT.stamps_zero];exact hR
theorem zOh(k:IntKind)(he:Extern.find fn=some (Extern.Atomic.update (Op.intArith .add) k true)){i off:Nat}{x y s:Int}{cs:List AV}(ha:cs[off]?=some (.val (.int k x)))(hs:∀w,(Op.intArith .add k x y).run P w=.ok (.int k s) w):tP P f [.mp i off,.val (.int k y)] (gK i off cs (.int k s)):=by refine tP.extern λG σ w cargs hR hv hc=>?_;obtain⟨u1,u2,rfl,h1,h2⟩:=zEJ hv;simp only[V]at h2;subst h2;have hX:=hc.wr _ _ _ (List.mem_singleton.2 rfl);obtain⟨b,vs,T,x',hbb,rfl,hh,hl,hcell,hfr,hx⟩:=zCY hR hX ha h1;simp only[V]at hx;subst hx;obtain⟨hE,hR'⟩:=zOi hR (off:=off) hbb hh hl (List.getElem?_eq_some_iff.1 ha).1 hX (.int k s);refine⟨_,_,G,run_call_add hf hname hb hn k he hcell hfr (hs w),hE,?_,by simp[gK,V]⟩;rw[gK,aJ];exact hR'
end
theorem zLH{H:Type}{enc:TypeId×Value->H}{P:Program}{W:World}{n:Nat}{sp:Nat->Bool}{hd:Bool}{t:TypeId}(ht:P.underlying t=some .bool)(b:Bool):DataW.Trod enc P W n sp hd t (.bool b) (.lit (.bool b)) []:=⟨1,by simp[DataW.trod,Value.cells,ht]⟩
end Go.Ab
namespace Go.Proofs.YtohkcbcddindpaaGreat
open Go.Ab Go.ChangeShapes Go.WideShapes Go.ChangeAt Go.RowKit
def qJ(f:FuncId)(args:List AV)(s:yW):Option LA:=bif Nat.beq f 66 then match args with
 |[.mp i off,.val (.int k y)]=>match Go.Ab.look s.H i with
  |some (.cells cs)=>match cs[off]? with|some _=>some (qQ i off cs (.int k y))|none=>none
  |_=>none
 |_=>none else bif Nat.beq f 184 then match args with
 |[.mp i off]=>match Go.Ab.look s.H i with
  |some (.cells cs)=>match cs[off]? with|some (.val (.int .i64 x))=>some (lB i cs (.val (.int .i64 x)))|_=>none
  |_=>none
 |_=>none else bif Nat.beq f 185 then match args with
 |[.mp i off,.val (.int .i64 y)]=>match Go.Ab.look s.H i with
  |some (.cells cs)=>match cs[off]? with|some (.val (.int .i64 x))=>some (gK i off cs (.int .i64 (IntKind.i64.wrap (x+y))))|_=>none
  |_=>none
 |_=>none else none
theorem wR:rV Tryz.prog qJ:=by intro f args s la h;unfold qJ at h;cases h0:Nat.beq f 66 with
 |true=>
  have:=Nat.eq_of_beq_eq_true h0;subst this;simp only[h0,cond_true]at h;split at h
  ·split at h
   ·rename_i hl;split at h
    ·rename_i ha;cases h;exact⟨⟨λi X h=>by simp[qQ]at h,λi A B h=>by simp[qQ]at h;obtain⟨rfl,rfl,_⟩:=h;exact hl,λi X h=>by simp[qQ]at h,λh=>by simp[qQ]at h,λk h=>by simp[qQ]at h,λh=>by simp[qQ]at h,λi k v h=>by simp[qQ]at h,λi k X Y h=>by simp[qQ]at h⟩,zHT Tryz.func66 (by kernel_rfl) (by kernel_rfl) (by kernel_rfl) (by kernel_rfl) ha⟩
    ·cases h
   ·cases h
  ·cases h|false=>simp only[h0,cond_false]at h;cases h1:Nat.beq f 184 with
  |true=>
   have:=Nat.eq_of_beq_eq_true h1;subst this;simp only[h1,cond_true]at h;split at h
   ·split at h
    ·rename_i hl;split at h;·rename_i ha;cases h;exact⟨⟨λi X h=>by simp[lB]at h;obtain⟨rfl,rfl⟩:=h;exact hl,λi A B h=>by simp[lB]at h,λi X h=>by simp[lB]at h,λh=>by simp[lB]at h,λk h=>by simp[lB]at h,λh=>by simp[lB]at h,λi k v h=>by simp[lB]at h,λi k X Y h=>by simp[lB]at h⟩,zLG Tryz.func184 (by kernel_rfl) (by kernel_rfl) (by kernel_rfl) .i64 (by kernel_rfl) ha⟩
     ·cases h
    ·cases h
   ·cases h|false=>simp only[h1,cond_false]at h;cases h2:Nat.beq f 185 with
   |true=>
    have:=Nat.eq_of_beq_eq_true h2;subst this;simp only[h2,cond_true]at h;split at h
    ·split at h
     ·rename_i hl;split at h
      ·rename_i ha;cases h;exact⟨⟨λi X h=>by simp[gK]at h,λi A B h=>by simp[gK]at h;obtain⟨rfl,rfl,_⟩:=h;exact hl,λi X h=>by simp[gK]at h,λh=>by simp[gK]at h,λk h=>by simp[gK]at h,λh=>by simp[gK]at h,λi k v h=>by simp[gK]at h,λi k X Y h=>by simp[gK]at h⟩,zOh Tryz.func185 (by kernel_rfl) (by kernel_rfl) (by kernel_rfl) .i64 (by kernel_rfl) ha (λw=>by simp[Op.intArith])⟩
      ·cases h
     ·cases h
    ·cases h|false=>simp only[h2,cond_false]at h;cases h
theorem mixed:Tryz.prog.follows .mixedOrders=true:=by kernel_rfl
theorem own:ownKnob Tryz.prog.godebug=none:=by kernel_rfl
theorem zJJ:laidOutB Tryz.prog=true:=by kernel_rfl
theorem zBc:Tryz.prog.cellsOf 48=3:=by kernel_rfl
theorem zLI{H:Type}{enc:TypeId×Value->H}{W:World}{n:Nat}{sp:Nat->Bool}{hd:Bool}:DataW.Trod enc Tryz.prog W n sp hd 4 (.bool true) (.lit (.bool true)) []:=zLH Tryz.underlying4 true
end Go.Proofs.YtohkcbcddindpaaGreat
