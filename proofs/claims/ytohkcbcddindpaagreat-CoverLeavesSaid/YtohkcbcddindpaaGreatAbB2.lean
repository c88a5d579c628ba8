/- Parts of the proof that the law returns true: walks of the functions, plain laws. -/
import Derived.Lib.SlicesCompact
import Derived.Sort.Grow
import Derived.Sort.Row
import Derived.Test.YtohkcbcddindpaaGreatAbB1
set_option linter.unusedVariables false
set_option linter.unusedSimpArgs false
set_option linter.unusedSectionVars false
namespace Go.Ab
open Go Go.RowKit
def aM(cs:List AV)(off n z:Nat):List AV:=(cs.drop off).take (n*z)
inductive aC where|row(i:Nat)(cs:List AV)|nil
def H6(H:List (Nat×yL)):AV->Option (aC×Nat×List AV)
 |.ms i 0 n _ _=>match look H i with|some (.row cs)=>some (.row i cs,n,cs)|_=>none
 |.sl [] 0 .nl=>some (.nil,0,[])|.sl [] 0 .full=>some (.nil,0,[])|_=>none
def A2(H:List (Nat×yL)):AV->Option (Option (Nat×List AV)×List AV×Nat×Nat)
 |.ms j off n c z=>match look H j with|some (.row cs)=>some (some (j,cs),aM cs off n z,n,z)|_=>none
 |.sl es n _=>some (none,es,n,0)|_=>none
def srd:Option (Nat×List AV)->List (Nat×yL)|some q=>[(q.1,.row q.2)]|none=>[]
def kL(P:Program)(t t2:TypeId)(z1:Option Nat)(cs:List AV)(n:Nat)(src:Option (Nat×Nat×Nat))(es:List AV)(n2:Nat):Option (List AV×Nat):=match P.underlying t with
 |some (.slice e)=>match P.info? e with
  |some ie=>match ie.zero with|some z=>if t=t2/\cs.length=n*ie.size/\es.length=n2*ie.size/\1<=ie.size/\z.cells.size=ie.size/\(n+n2)*ie.bytes<=140737488355328/\n+n2<=4611686018427387904/\es.all AV.one=true/\n2≠0/\(∀q,z1=some q->q=ie.size)/\(∀q,src=some q->q.2.2=ie.size)then some (cs++es,n+n2)else none|none=>none
  |none=>none
 |none=>none|_=>none
def aC.wr:aC->List (Nat×yL×yL)|.row i cs=>[(i,.row cs,.dead)]|.nil=>[]
def aC.z(x:AV):aC->Option Nat
 |.row _ _=>match x with|.ms _ _ _ _ z=>some z|_=>none
 |.nil=>none
theorem zFP{ev:Operand->AV}{rd:List (Nat×yL)}{i j:Nat}{X Y Z:yL}{v:AV}{σ:vD}:({ev:=ev,rd:=rd,wr:=[(i,X,Y)],al:=[(j,Z)],v:=v}:LA).app σ=⟨up (up σ.H i Y) j Z,σ.own,σ.ns⟩:=by unfold LA.app;show(vD.mk (up (up σ.H i Y) j Z) σ.own σ.ns).stamps [] 0=_;rw[vD.stamps_zero]
def aN(P:Program)(t:TypeId):Nat:=match P.underlying t with
 |some (.slice e)=>match P.info? e with|some ie=>ie.size|none=>0
 |_=>0
theorem yM.bury{G:Gh}{σ:vD}{w:World}(h:yM G σ w){i:Nat}{X:yL}(hX:σ.H i=some X):yM G ⟨up σ.H i .dead,σ.own,σ.ns⟩ w:=by
 refine⟨λj=>?_,?_,λj k c hj hk=>?_,λj c Y hj hY=>?_,h.live,h.τns,h.own,h.ownd,h.below,h.base⟩
 ·show iO (G.ρ j) (G.N j) (up σ.H i _ j);by_cases e:j=i
  ·subst e;rw[yR];have hd:=h.dom j;rw[hX]at hd;refine⟨λe=>?_,λe=>(by cases e),λe=>⟨(hd.2.2 e).1,λY hY=>?_⟩⟩
   ·rcases hd.1 e with q|q;·exact .inl q
    ·cases q
   ·cases hY;trivial
  ·rw[xO _ _ e];exact h.dom j
 ·obtain⟨N,hN⟩:=h.fin;refine⟨max N (i+1),λj hj=>?_⟩;show up σ.H i _ j=none;rw[xO _ _ (by omega)];exact hN j (by omega)
 ·have hne:∀t,σ.H t=some .dead->up σ.H i .dead t=some .dead:=λt ht=>by
   by_cases e:t=i;·subst e;exact yR _ _ _
   ·rw[xO _ _ e];exact ht
  exact(h.inj j k c hj hk).imp id (Or.imp (hne j) (hne k))
 ·rcases nL hY with⟨rfl,rfl⟩|⟨e,hY⟩
  ·obtain⟨q1,q2⟩:=h.blk j c X hj hX;exact⟨q1,q2.lt⟩
  ·exact h.blk j c Y hj hY
theorem yM.renew{G:Gh}{σ:vD}{w:World}(h:yM G σ w){i j b:Nat}{X Z:yL}(hX:σ.H i=some X)(hd:X≠.dead)(hi:G.ρ i=some b)(hj:σ.H j=none)(hZ:vZ (G.addρ j b) w b Z):vL G w (G.addρ j b) w/\yM (G.addρ j b) ⟨up (up σ.H i .dead) j Z,σ.own,σ.ns⟩ w:=by
 have hij:i≠j:=λe=>by subst e;rw[hX]at hj;cases hj
 have hE:vL G w (G.addρ j b) w:=⟨λ_ _ e=>aZ (((h.dom j).2.1 hj).1) e,λ_ _ e=>e,λ_ _ e=>e,λ_ _ _=>rfl,rfl,rfl,λ_ _ e=>.inl e,λ_ _ _ _ r=>r,λ_ e=>e⟩;have hB:=h.bury hX;refine⟨hE,λk=>?_,?_,λk l c hk hl=>?_,λk c Y hk hY=>?_,λc o hL=>?_,h.τns,λk hk=>?_,h.ownd,h.below,h.base⟩
 ·show iO (up G.ρ j b k) (G.N k) (up (up σ.H i .dead) j Z k);by_cases e:k=j;·subst e;rw[yR,yR];exact .some ((h.dom k).2.1 hj).2
  ·rw[xO _ _ e,xO _ _ e];exact hB.dom k
 ·obtain⟨N,hN⟩:=hB.fin;refine⟨max N (j+1),λk hk=>?_⟩;show up _ j Z k=none;rw[xO _ _ (by omega)];exact hN k (by omega)
 ·have key:∀t,t≠j->G.ρ t=some b->up σ.H i .dead t=some .dead:=by
   intro t ht e;rcases h.inj t i b e hi with q|q|q;·subst q;exact yR _ _ _
   ·by_cases e2:t=i;·subst e2;exact yR _ _ _
    ·rw[xO _ _ e2];exact q
   ·rw[hX]at q;exact(hd (Option.some.inj q)).elim
  show k=l\/up _ j Z k=_\/up _ j Z l=_;have hk':up G.ρ j b k=some c:=hk;have hl':up G.ρ j b l=some c:=hl;by_cases h1:k=j
  ·by_cases h2:l=j;·exact .inl (h1.trans h2.symm)
   ·subst h1;rw[yR]at hk';rw[xO _ _ h2]at hl';cases hk';right;right;rw[xO _ _ h2];exact key l h2 hl'
  ·rw[xO _ _ h1]at hk';by_cases h2:l=j
   ·subst h2;rw[yR]at hl';cases hl';right;left;rw[xO _ _ h1];exact key k h1 hk'
   ·rw[xO _ _ h2]at hl';rw[xO _ _ h1,xO _ _ h2];exact hB.inj k l c hk' hl'
 ·rcases nL hk with⟨rfl,rfl⟩|⟨hne,hk⟩
  ·have hY':up (up σ.H i .dead) k Z k=some Y:=hY;rw[yR]at hY';cases hY';exact⟨(h.blk i c X hi hX).1,hZ⟩
  ·have hY':up (up σ.H i .dead) j Z k=some Y:=hY;rw[xO _ _ hne]at hY';obtain⟨q1,q2⟩:=hB.blk k c Y hk hY';exact⟨q1,vZ.mono hE rfl q2⟩
 ·obtain⟨q1,q2⟩:=h.live c o hL;refine⟨q1,λk hk=>?_⟩;rcases nL hk with⟨_,e⟩|⟨_,hk⟩;·subst e;exact q2 i hi
  ·exact q2 k hk
 ·obtain⟨c,f,t,q1,q2|⟨q2,q3,q4,q5⟩⟩:=h.own k hk;·exact⟨c,f,t,q1,.inl q2⟩
  refine⟨c,f,t,q1,.inr ⟨q2,λl hl=>?_,q4,q5⟩⟩;rcases nL hl with⟨_,e⟩|⟨_,hl⟩;·subst e;exact q3 i hi
  ·exact q3 l hl
def Gh.addN(G:Gh)(j:Nat):Gh:={G with N:=λk=>G.N k\/k=j}
theorem vL.addN(G:Gh)(w:World)(j:Nat):vL G w (G.addN j) w:=⟨λ_ _ e=>e,λ_ _ e=>e,λ_ _ e=>e,λ_ _ _=>rfl,rfl,rfl,λ_ _ e=>.inl e,λ_ _ _ _ r=>r,λ_ e=>.inl e⟩
theorem yM.nilrow{G:Gh}{σ:vD}{w:World}(h:yM G σ w){j:Nat}(hj:σ.H j=none):yM (G.addN j) ⟨up σ.H j (.row []),σ.own,σ.ns⟩ w:=by
 have hE:=vL.addN G w j;have hρj:=((h.dom j).2.1 hj).1;refine⟨λk=>?_,?_,λk l c hk hl=>?_,λk c Y hk hY=>?_,h.live,h.τns,h.own,h.ownd,h.below,h.base⟩
 ·show iO (G.ρ k) (G.N k\/k=j) (up σ.H j (.row []) k);by_cases e:k=j
  ·subst e;rw[yR,hρj];exact⟨λ_=>.inl (.inr rfl),λe=>(by cases e),λ_=>⟨rfl,λY hY=>by cases hY;trivial⟩⟩
  ·rw[xO _ _ e];have hd:=h.dom k;exact⟨λq=>(hd.1 q).imp .inl id,λq=>⟨(hd.2.1 q).1,λr=>r.elim (hd.2.1 q).2 e⟩,λr=>r.elim hd.2.2 λr=>absurd r e⟩
 ·obtain⟨N,hN⟩:=h.fin;refine⟨max N (j+1),λk hk=>?_⟩;show up σ.H j _ k=none;rw[xO _ _ (by omega)];exact hN k (by omega)
 ·have hne:∀t,σ.H t=some .dead->up σ.H j (.row []) t=some .dead:=λt ht=>by rw[xO _ _ (λe=>by subst e;rw[hj]at ht;cases ht)];exact ht
  exact(h.inj k l c hk hl).imp id (Or.imp (hne k) (hne l))
 ·have hk':G.ρ k=some c:=hk;have e:k≠j:=λe=>by subst e;rw[hρj]at hk';cases hk'
  have hY':up σ.H j (.row []) k=some Y:=hY;rw[xO _ _ e]at hY';obtain⟨q1,q2⟩:=h.blk k c Y hk' hY';exact⟨q1,vZ.mono hE rfl q2⟩
theorem fR.part{G:Gh}{w:World}{cs:List AV}{vs:List Value}(h:fR G w cs vs){off n z:Nat}(hl:(aM cs off n z).length=n*z):∃us:List Value,VL G w (aM cs off n z) us/\us.length=n*z/\∀j v,us[j]?=some v->vs[off+j]?=some v:=by
 obtain⟨us,rest,rfl,hv⟩:=h;have hvl:=VL.length _ _ hv;have hd:VL G w (aM cs off n z) ((us.drop off).take (n*z)):=VL.take _ _ _ (VL.drop _ _ _ hv);have h2:=VL.length _ _ hd;refine⟨_,hd,by rw[h2,hl],λj v hj=>?_⟩;obtain⟨h3,h4⟩:=List.getElem?_eq_some_iff.1 hj;have h5:off+j<us.length:=by simp only[List.length_take,List.length_drop]at h3;omega
 rw[List.getElem?_append_left h5];rw[List.getElem?_take]at hj;split at hj;·rw[List.getElem?_drop]at hj;exact hj
 ·cases hj
theorem zPP{H:List (Nat×yL)}{a:AV}{n:Nat}{cs:List AV}(h:H6 H a=some (.nil,n,cs)):n=0/\cs=[]/\(a=.sl [] 0 .nl\/a=.sl [] 0 .full):=by
 unfold H6 at h;split at h;·split at h<;>cases h
 ·cases h;exact⟨rfl,rfl,.inl rfl⟩
 ·cases h;exact⟨rfl,rfl,.inr rfl⟩
 ·cases h
theorem zCD{G:Gh}{w:World}{a:AV}{u:Value}(h:a=.sl [] 0 .nl\/a=.sl [] 0 .full)(hv:V G w a u):∃p,u=.slice p 0 0:=by
 rcases h with rfl|rfl
 ·simp only[V]at hv;obtain⟨cap,_,⟨_,_,rfl,hu,_⟩|⟨b,off,_,_,hf⟩⟩:=hv;·exact⟨_,hu⟩
  ·exact hf.elim
 ·simp only[V]at hv;obtain⟨cap,_,⟨_,_,rfl,hu,_⟩|⟨b,off,hu,_,hf⟩⟩:=hv;·exact⟨_,hu⟩
  ·simp only[kR]at hf;subst hf;exact⟨_,hu⟩
set_option maxHeartbeats 4000000 in theorem zLu{P:Program}{dst:Option Tmp}{type:TypeId}{pos:String}{after:Array Edge}{guard:Option (Nat×Bool)}{t t2:TypeId}{x y:Operand}{ev:Operand->AV}{s:xB}{d:aC}{cs es:List AV}{n n2 z2:Nat}{sr:Option (Nat×List AV)}{cs':List AV}{n':Nat}(hd:H6 s.H (ev x)=some (d,n,cs))(hs:A2 s.H (ev y)=some (sr,es,n2,z2))(h:kL P t t2 (d.z (ev x)) cs n (sr.map λq=>(q.1,q.1,z2)) es n2=some (cs',n')):wN P ⟨dst,.call {callee:=.builtin .append,args:=#[x,y],argTypes:=#[t,t2]},type,pos,after,guard⟩ {ev:=ev,rd:=srd sr,wr:=d.wr,al:=[(s.nx,.row cs')],v:=.ms s.nx 0 n' n' (aN P t)}:=by
 unfold kL at h;split at h
 ·rename_i e hut;split at h
  ·rename_i ie hie;split at h
   ·rename_i z hz;split at h
    ·rename_i hc;obtain⟨rfl,c1,c2,c3,c4,c5,c6,c7,hn2,hz1,hz2⟩:=hc;cases h;have hszO:aN P t=ie.size:=by simp[aN,hut,hie]
     have exec:∀(a:Act)(w:World)(u:Value)(w':World),(Builtin.append_ #[t,t] type #[a.eval x,a.eval y]).run P w=.ok u w'->(execOp a.eval ⟨dst,.call {callee:=.builtin .append,args:=#[x,y],argTypes:=#[t,t]},type,pos,after,guard⟩).run P w=.ok (.value u) w':=by intro a w u w' hr;simp[execOp,resolve,invoke,builtin,hr]
     have opx:∀{Z:Op},Z=.call {callee:=.builtin .append,args:=#[x,y],argTypes:=#[t,t]}->x∈Z.operands/\y∈Z.operands:=by rintro _ rfl;simp[Op.operands,Call.operands]
     refine wN.value λG σ w a hR hx hcn=>?_;have hxx:V G w (ev x) (a.eval x):=hx x (opx rfl).1;have hyy:V G w (ev y) (a.eval y):=hx y (opx rfl).2;have hnx:σ.H s.nx=none:=hcn.al _ _ (List.mem_singleton.2 rfl);have src:∃(b2 off2 c:Nat)(news:List Value),a.eval y=.slice (some ⟨b2,off2,none⟩) n2 c/\news.length=n2*ie.size/\VL G w es news/\∀j v,news[j]?=some v->w.cell? ⟨b2,off2+j,none⟩=some v:=by
      unfold A2 at hs;split at hs
      ·rename_i j off m mc zz hy;split at hs
       ·rename_i c0 hl;cases hs;have hrd:σ.H j=some (.row c0):=hcn.rd _ _ (List.mem_singleton.2 rfl);rw[hy]at hyy;simp only[V]at hyy;obtain⟨b2,cap,hb2,hcc,o2,hye,⟨eo,_⟩|⟨e0,_⟩⟩|⟨⟨e0,_⟩,_⟩:=hyy;rotate_left;·exact(hn2 (by omega)).elim
        ·exact(hn2 e0).elim
        have eo':=eo.symm;subst eo';obtain⟨_,vs,T,hh,hvp⟩:=hR.blk j b2 _ hb2 hrd;have hzz:z2=ie.size:=hz2 _ rfl;subst hzz;obtain⟨us,h1,h2,h3⟩:=fR.part hvp c2;refine⟨b2,off,cap,us,hye,h2,h1,λk v hk=>?_⟩;have:=h3 k v hk;simp only[World.cell?,hh];simpa using this
       ·cases hs
      ·rename_i hy;cases hs;rw[hy]at hyy;simp only[V]at hyy;obtain⟨cap2,_,⟨_,e0,_⟩|⟨b2,off,hye,hC,_⟩⟩:=hyy;·exact(hn2 e0).elim
       ·obtain⟨vs2,hv2,hcell2⟩:=VC.cells _ _ _ hC;refine⟨b2,off,cap2,vs2,hye,by rw[VL.length _ _ hv2,c2],hv2,λj v hj=>?_⟩;obtain⟨hj1,hj2⟩:=List.getElem?_eq_some_iff.1 hj;rw[hcell2 j hj1,hj2]
      ·cases hs
     obtain⟨b2,off2,cc,news,hye,hnl,hnv,hnc⟩:=src;have jO:∀(σ1:vD)(olds:List Value)(old:Nat),yM G σ1 w->σ1.H s.nx=none->VL G w cs olds->old<n+n2->∃G',vL G w G' (w.drew.alloc (.cells (olds.toArray++news.toArray++Builtin.zeroCells z.cells (grownCap w (n+n2) old e-(n+n2))) e))/\yM G' ⟨up σ1.H s.nx (.row (cs++es)),σ1.own,σ1.ns⟩ (w.drew.alloc (.cells (olds.toArray++news.toArray++Builtin.zeroCells z.cells (grownCap w (n+n2) old e-(n+n2))) e))/\V G' (w.drew.alloc (.cells (olds.toArray++news.toArray++Builtin.zeroCells z.cells (grownCap w (n+n2) old e-(n+n2))) e)) (.ms s.nx 0 (n+n2) (n+n2) (aN P t)) (.slice (some ⟨w.heap.size,0,none⟩) (n+n2) (grownCap w (n+n2) old e)):=by intro σ1 olds old hR1 hn1 hv1 ho;have hge:=grownCap_ge w (n+n2) old e;have hE0:=vL.drew G w;have hR2:=yM.drew hR1;have hv:VL G w.drew (cs++es) (olds++news):=VL.append _ _ _ _ (VL.mono hE0 _ _ hv1) (VL.mono hE0 _ _ hnv);have hE1:=vL.alloc hR2 (.cells (olds.toArray++news.toArray++Builtin.zeroCells z.cells (grownCap w (n+n2) old e-(n+n2))) e) hn1;refine⟨_,hE0.trans hE1,hR2.alloc _ (.row (cs++es)) hn1 ⟨_,e,uO _ _,olds++news,(Builtin.zeroCells z.cells (grownCap w (n+n2) old e-(n+n2))).toList,by simp,VL.mono hE1 _ _ hv⟩,?_⟩;simp only[V];refine .inl ⟨w.heap.size,_,yR _ _ _,⟨Nat.le_refl _,hge⟩,0,rfl,.inl ⟨rfl,_,e,uO _ _,?_⟩⟩;have hol:=VL.length _ _ hv1;rw[hszO];simp only[Array.size_append,List.size_toArray,size_zeroCells,c4,hol,c1,hnl,Nat.zero_add];rw[<-Nat.add_mul,<-Nat.add_mul];exact Nat.mul_le_mul_right _ (by omega)
     cases hdd:d with|nil=>
      subst hdd;obtain⟨rfl,rfl,hxs⟩:=zPP hd;obtain⟨p,hxe⟩:=zCD hxs hxx;obtain⟨G',g1,g2,g3⟩:=jO σ [] 0 hR hnx (by simp[VL]) (by omega);have hr:(Builtin.append_ #[t,t] type #[.slice p 0 0,.slice (some ⟨b2,off2,none⟩) n2 cc]).run P w=.ok (.slice (some ⟨w.heap.size,0,none⟩) n2 (grownCap w n2 0 e)) (w.drew.alloc (.cells (news.toArray++Builtin.zeroCells z.cells (grownCap w n2 0 e-n2)) e)):=by cases p with|none=>exact run_append_nil (P:=P) w t type e ie z hut hie hz ⟨b2,off2,none⟩ n2 cc news hnl (λj v hj=>by rw[Addr.add_lit];exact hnc j v hj) (by omega) (by omega) (by simp only[Nat.zero_add]at c5;omega)|some q=>have:=run_append_grow (P:=P) w t type e ie z hut hie hz q 0 0 [] (by simp) (λj v hj=>by simp at hj) ⟨b2,off2,none⟩ n2 cc news hnl (λj v hj=>by rw[Addr.add_lit];exact hnc j v hj) (by omega) (by omega) (growslice_fits (by omega) c5);simpa using this
      simp only[Nat.zero_add,Array.empty_append,List.nil_append]at g1 g2 g3⊢;refine⟨_,_,G',exec a w _ _ (by rw[hxe,hye];exact hr),g1,?_,g3⟩;show yM G' ((⟨up σ.H s.nx (.row es),σ.own,σ.ns⟩:vD).stamps [] 0) _;rw[vD.stamps_zero];exact g2|row i c0=>
      subst hdd;unfold H6 at hd;split at hd
      ·rename_i i' m mc zz hxe0;split at hd
       ·rename_i c1' hl;cases hd;have hwr:σ.H i=some (.row cs):=hcn.wr _ _ _ (List.mem_singleton.2 rfl);have hzz:zz=ie.size:=hz1 zz (by simp[aC.z,hxe0]);subst hzz;rw[hxe0]at hxx;simp only[V]at hxx;obtain⟨b,cap,hb,hcap,o1,hxe,⟨rfl,vs0,T0,hh0,hroom0⟩|⟨_,h00⟩⟩|⟨⟨e0,_⟩,hN,p,hxe⟩:=hxx;rotate_left;·exact absurd h00 (Nat.lt_irrefl _)
        ·have hc0:=yL.void_row (hR.Nvoid hN hwr);subst e0;subst hc0;have hinx:i≠s.nx:=λe=>by rw[e]at hwr;rw[hnx]at hwr;cases hwr
         obtain⟨G',g1,g2,g3⟩:=jO ⟨up σ.H i .dead,σ.own,σ.ns⟩ [] 0 (hR.bury hwr) (by show up σ.H i _ s.nx=none;rw[xO _ _ (λe=>hinx e.symm)];exact hnx) (by simp[VL]) (by omega);have hr:(Builtin.append_ #[t,t] type #[.slice p 0 0,.slice (some ⟨b2,off2,none⟩) n2 cc]).run P w=.ok (.slice (some ⟨w.heap.size,0,none⟩) n2 (grownCap w n2 0 e)) (w.drew.alloc (.cells (news.toArray++Builtin.zeroCells z.cells (grownCap w n2 0 e-n2)) e)):=by cases p with|none=>exact run_append_nil (P:=P) w t type e ie z hut hie hz ⟨b2,off2,none⟩ n2 cc news hnl (λj v hj=>by rw[Addr.add_lit];exact hnc j v hj) (by omega) (by omega) (by simp only[Nat.zero_add]at c5;omega)|some q=>have:=run_append_grow (P:=P) w t type e ie z hut hie hz q 0 0 [] (by simp) (λj v hj=>by simp at hj) ⟨b2,off2,none⟩ n2 cc news hnl (λj v hj=>by rw[Addr.add_lit];exact hnc j v hj) (by omega) (by omega) (growslice_fits (by omega) c5);simpa using this
         simp only[Nat.zero_add,Array.empty_append,List.nil_append]at g1 g2 g3⊢;refine⟨_,_,G',exec a w _ _ (by rw[hxe,hye];exact hr),g1,?_,g3⟩;show yM G' ((⟨up (up σ.H i .dead) s.nx (.row es),σ.own,σ.ns⟩:vD).stamps [] 0) _;rw[vD.stamps_zero];exact g2
        obtain⟨_,vs,T,hh,us,rest,hvs,hus⟩:=hR.blk i b _ hb hwr;have e0:vs=vs0/\T=T0:=by rw[hh]at hh0;cases hh0;exact⟨rfl,rfl⟩
        obtain⟨e0,e00⟩:=e0;subst e0;subst e00;have hul:=VL.length _ _ hus;have hinx:i≠s.nx:=λe=>by rw[e]at hwr;rw[hnx]at hwr;cases hwr
        have happ:∀{G':Gh}{w':World},yM G' ⟨up (up σ.H i .dead) s.nx (.row (cs++es)),σ.own,σ.ns⟩ w'->yM G' ((⟨up (up σ.H i .dead) s.nx (.row (cs++es)),σ.own,σ.ns⟩:vD).stamps [] 0) w':=λq=>by rw[vD.stamps_zero];exact q
        by_cases hroom:n+n2<=cap
        ·have hmul:(n+n2)*ie.size<=cap*ie.size:=Nat.mul_le_mul_right _ hroom;have hfit:0+n*ie.size+news.length<=vs.size:=by rw[Nat.add_mul]at hmul;omega
         have hr:=pW (P:=P) (w:=w) (ty:=type) hut hie b 0 n cap vs hh ⟨b2,off2,none⟩ n2 cc news hnl (λj u hj=>by rw[Addr.add_lit];exact hnc j u hj) (VL.all_one _ _ hnv c7) hroom hfit;have hsz:vs.size<=(vs.toList.take (0+n*ie.size)++news++vs.toList.drop (0+n*ie.size+news.length)).length:=by simp only[List.length_append,List.length_take,List.length_drop,Array.length_toList];omega
         have hpre:vs.toList.take (0+n*ie.size)=us:=by rw[hvs,Nat.zero_add,<-c1,<-hul];simp
         have hE1:=vL.setRow hR hb (vs.toList.take (0+n*ie.size)++news++vs.toList.drop (0+n*ie.size+news.length)).toArray (λo T' eo=>by rw[hh]at eo;cases eo;simpa using hsz);have hblk:vZ G (w.setRow b (vs.toList.take (0+n*ie.size)++news++vs.toList.drop (0+n*ie.size+news.length)).toArray) b (.row (cs++es)):=by refine⟨_,T,setRow_heap w b vs _ T _ hh,us++news,vs.toList.drop (0+n*ie.size+news.length),by rw[hpre],VL.append _ _ _ _ (VL.mono hE1 _ _ hus) (VL.mono hE1 _ _ hnv)⟩
         have hR1:=hR.setRowX hb (by rw[hwr];simp) (vs.toList.take (0+n*ie.size)++news++vs.toList.drop (0+n*ie.size+news.length)) (λo T' eo=>by rw[hh]at eo;cases eo;simpa using hsz) (.row (cs++es)) hblk;have hnx1:up σ.H i (.row (cs++es)) s.nx=none:=by rw[xO _ _ (λe=>hinx e.symm)];exact hnx
         have hE2:vL G (w.setRow b (vs.toList.take (0+n*ie.size)++news++vs.toList.drop (0+n*ie.size+news.length)).toArray) (G.addρ s.nx b) _:=⟨λ_ _ e=>aZ (((hR.dom s.nx).2.1 hnx).1) e,λ_ _ e=>e,λ_ _ e=>e,λ_ _ _=>rfl,rfl,rfl,λ_ _ e=>.inl e,λ_ _ _ _ r=>r,λ_ e=>e⟩;obtain⟨q1,q2⟩:=hR1.renew (i:=i) (j:=s.nx) (X:=.row (cs++es)) (Z:=.row (cs++es)) (yR _ _ _) (by simp) hb hnx1 (by obtain⟨vs',T',h1,h2⟩:=hblk;exact⟨vs',T',h1,h2.imp (VL.mono hE2 _)⟩);have hfun:up (up (up σ.H i (.row (cs++es))) i .dead) s.nx (.row (cs++es))=up (up σ.H i .dead) s.nx (.row (cs++es)):=by
          funext k;by_cases e1:k=s.nx;·subst e1;rw[yR,yR]
          ·rw[xO _ _ e1,xO _ _ e1];by_cases e2:k=i;·subst e2;rw[yR,yR]
           ·rw[xO _ _ e2,xO _ _ e2,xO _ _ e2]
         rw[hfun]at q2;refine⟨_,_,_,exec a w _ _ (by rw[hxe,hye];exact hr),hE1.trans q1,happ q2,?_⟩;simp only[V];refine .inl ⟨b,cap,yR _ _ _,⟨Nat.le_refl _,hroom⟩,0,rfl,.inl ⟨rfl,_,T,setRow_heap w b vs _ T _ hh,?_⟩⟩;rw[hszO,List.size_toArray];exact Nat.le_trans hroom0 hsz
        ·have hold:VL G w cs us:=hus;obtain⟨G',g1,g2,g3⟩:=jO ⟨up σ.H i .dead,σ.own,σ.ns⟩ us cap (hR.bury hwr) (by show up σ.H i _ s.nx=none;rw[xO _ _ (λe=>hinx e.symm)];exact hnx) hold (by omega);have hr:=run_append_grow (P:=P) w t type e ie z hut hie hz ⟨b,0,none⟩ n cap us (by rw[hul,c1]) (λj v hj=>by
          rw[Addr.add_lit];have h1:vs.toList[j]?=some v:=by rw[hvs];rw[List.getElem?_append_left (List.getElem?_eq_some_iff.1 hj).1];exact hj
          simp only[World.cell?,hh];simpa using h1) ⟨b2,off2,none⟩ n2 cc news hnl (λj v hj=>by rw[Addr.add_lit];exact hnc j v hj) (by omega) (by omega) (growslice_fits (by omega) c5);exact⟨_,_,G',exec a w _ _ (by rw[hxe,hye];exact hr),g1,happ g2,g3⟩
       ·cases hd
      ·cases hd
      ·cases hd
      ·cases hd
    ·cases h
   ·cases h
  ·cases h
 ·cases h
 ·cases h
def zPQ(P:Program)(t t2:TypeId)(z1:Option Nat)(cs:List AV)(n:Nat)(bs:ByteArray):Option (List AV×Nat):=none
theorem zPR{P:Program}{dst:Option Tmp}{type:TypeId}{pos:String}{after:Array Edge}{guard:Option (Nat×Bool)}{t t2:TypeId}{x y:Operand}{ev:Operand->AV}{s:xB}{d:aC}{cs:List AV}{n:Nat}{bs:ByteArray}{cs':List AV}{n':Nat}(hd:H6 s.H (ev x)=some (d,n,cs))(hey:ev y=.val (.string bs))(h:zPQ P t t2 (d.z (ev x)) cs n bs=some (cs',n')):wN P ⟨dst,.call {callee:=.builtin .append,args:=#[x,y],argTypes:=#[t,t2]},type,pos,after,guard⟩ {ev:=ev,wr:=d.wr,al:=[(s.nx,.row cs')],v:=.ms s.nx 0 n' n' (aN P t)}:=by unfold zPQ at h;cases h
theorem zLt{H:List (Nat×yL)}{a:AV}{d:aC}{n:Nat}{cs:List AV}(h:H6 H a=some (d,n,cs)):∀i X Y,(i,X,Y)∈d.wr->look H i=some X:=by
 intro i X Y hm;unfold H6 at h;split at h
 ·split at h
  ·rename_i hl;cases h;simp only[aC.wr,List.mem_singleton,Prod.mk.injEq]at hm;obtain⟨rfl,rfl,rfl⟩:=hm;exact hl
  ·cases h
 ·cases h;simp[aC.wr]at hm
 ·cases h;simp[aC.wr]at hm
 ·cases h
theorem zLs{H:List (Nat×yL)}{a:AV}{sr:Option (Nat×List AV)}{es:List AV}{n z:Nat}(h:A2 H a=some (sr,es,n,z)):∀i X,(i,X)∈srd sr->look H i=some X:=by
 intro i X hm;unfold A2 at h;split at h
 ·split at h
  ·rename_i hl;cases h;simp only[srd,List.mem_singleton,Prod.mk.injEq]at hm;obtain⟨rfl,rfl⟩:=hm;exact hl
  ·cases h
 ·cases h;simp[srd]at hm
 ·cases h
theorem zNp{P:Program}{dst:Option Tmp}{type:TypeId}{pos:String}{after:Array Edge}{guard:Option (Nat×Bool)}{t:TypeId}{x y:Operand}{ev:Operand->AV}{H:List (Nat×yL)}{d:aC}{cs es:List AV}{n n2 z2:Nat}{sr:Option (Nat×List AV)}{e:TypeId}{ie:TypeInfo}(hut:P.underlying t=some (.slice e))(hie:P.info? e=some ie)(hd:H6 H (ev x)=some (d,n,cs))(hs:A2 H (ev y)=some (sr,es,n2,z2))(h0:n2=0):wN P ⟨dst,.call {callee:=.builtin .append,args:=#[x,y],argTypes:=#[t,t]},type,pos,after,guard⟩ {ev:=ev,v:=ev x}:=by
 subst h0;have opx:∀{Z:Op},Z=.call {callee:=.builtin .append,args:=#[x,y],argTypes:=#[t,t]}->x∈Z.operands/\y∈Z.operands:=by rintro _ rfl;simp[Op.operands,Call.operands]
 refine wN.pure λG w a hx=>?_;have hxx:=hx x (opx rfl).1;have hyy:=hx y (opx rfl).2;have e2:∃b2 c2,a.eval y=.slice b2 0 c2:=by
  unfold A2 at hs;split at hs
  ·rename_i j off m mc zz hy;split at hs;·cases hs;rw[hy]at hyy;simp only[V]at hyy;rcases hyy with⟨b2,cap,_,_,o2,hye,_⟩|⟨_,_,p,hye⟩<;>exact⟨_,_,hye⟩
   ·cases hs
  ·rename_i hy;cases hs;rw[hy]at hyy;simp only[V]at hyy;obtain⟨cap2,_,⟨_,_,_,h2,_⟩|⟨b,off,h2,_⟩⟩:=hyy<;>exact⟨_,_,h2⟩
  ·cases hs
 have e1:∃b1 c1,n<=c1/\a.eval x=.slice b1 n c1:=by
  have hxx':=hxx;unfold H6 at hd;split at hd
  ·rename_i j m mc zz hy;split at hd
   ·cases hd;rw[hy]at hxx';simp only[V]at hxx';rcases hxx' with⟨b2,cap,_,hc,o2,hye,_⟩|⟨⟨e0,_⟩,_,p,hye⟩;·exact⟨_,_,Nat.le_trans hc.1 hc.2,hye⟩
    ·subst e0;exact⟨_,_,Nat.le_refl 0,hye⟩
   ·cases hd
  ·rename_i hy;cases hd;rw[hy]at hxx';simp only[V]at hxx';obtain⟨cap2,hc,⟨_,_,h3,h2,_⟩|⟨b,off,h2,_⟩⟩:=hxx';·exact⟨_,_,Nat.le_refl _,h2⟩
   ·exact⟨_,_,hc,h2⟩
  ·rename_i hy;cases hd;rw[hy]at hxx';simp only[V]at hxx';obtain⟨cap2,hc,⟨_,_,h3,h2,_⟩|⟨b,off,h2,_⟩⟩:=hxx';·exact⟨_,_,Nat.le_refl _,h2⟩
   ·exact⟨_,_,hc,h2⟩
  ·cases hd
 obtain⟨b2,c2,e2⟩:=e2;obtain⟨b1,c1,hc,e1⟩:=e1;refine⟨a.eval x,?_,hxx⟩;have hr:=qZ (P:=P) (w:=w) (ty:=type) hut hie b1 b2 n c1 c2 hc (by cases b2<;>simp);rw[<-e1,<-e2]at hr;simp[execOp,resolve,invoke,builtin,hr]
theorem zNo{P:Program}{dst:Option Tmp}{type:TypeId}{pos:String}{after:Array Edge}{guard:Option (Nat×Bool)}{t kt et:TypeId}{x:Operand}{ev:Operand->AV}{i c:Nat}{es:Array MapEntry}(hut:P.underlying t=some (.map kt et))(hx0:ev x=.obj i):wN P ⟨dst,.call {callee:=.builtin .len,args:=#[x],argTypes:=#[t]},type,pos,after,guard⟩ {ev:=ev,rd:=[(i,.obj (.map es c))],v:=.val (goInt es.size)}:=by
 refine wN.reads λG σ w a hR hx hrd=>?_;have hX:=hrd _ _ (List.mem_singleton.2 rfl);obtain⟨b,hb,_,hblk⟩:=hR.look hX;have hxx:V G w (ev x) (a.eval x):=hx x (by simp[Op.operands,Call.operands]);rw[hx0]at hxx;simp only[V]at hxx;obtain⟨b',hb',hxe⟩:=hxx;rw[hb]at hb';cases hb';have hh:w.heap[b]?=some (.map es c):=hblk.1;have hget:(getObj b).run P w=.ok (.map es c) w:=by simp[getObj,Sem.run,hh]
 refine⟨goInt es.size,?_,by simp only[V]⟩;simp[execOp,resolve,invoke,builtin,Builtin.len_,run_underlying hut,hxe,hget]
theorem yM.tell{G:Gh}{σ:vD}{w:World}(h:yM G σ w){i:Nat}{X Z:yL}(hX:σ.H i=some X)(hd:X≠.dead)(hZ:∀b,vZ G w b X->vZ G w b Z)(hv:X.void->Z.void):yM G ⟨up σ.H i Z,σ.own,σ.ns⟩ w:=by
 have hd':σ.H i≠some .dead:=by rw[hX];exactλe=>hd (Option.some.inj e)
 refine⟨λj=>?_,?_,h.inj_up hd' Z,λj c Y hj hY=>?_,h.live,h.τns,h.own,h.ownd,h.below,h.base⟩
 ·show iO (G.ρ j) (G.N j) (up σ.H i Z j);by_cases e:j=i
  ·subst e;rw[yR];have hd:=h.dom j;rw[hX]at hd;exact⟨λe=>(hd.1 e).elim .inl λq=>(by cases q),λe=>(by cases e),λe=>⟨(hd.2.2 e).1,λY hY=>by cases hY;exact hv ((hd.2.2 e).2 X rfl)⟩⟩
  ·rw[xO _ _ e];exact h.dom j
 ·obtain⟨N,hN⟩:=h.fin;refine⟨max N (i+1),λj hj=>?_⟩;show up σ.H i _ j=none;rw[xO _ _ (by omega)];exact hN j (by omega)
 ·rcases nL hY with⟨rfl,rfl⟩|⟨e,hY⟩;·obtain⟨q1,q2⟩:=h.blk j c X hj hX;exact⟨q1,hZ c q2⟩
  ·exact h.blk j c Y hj hY
def zJr(P:Program)(t t2:TypeId)(z:Nat)(cs:List AV)(n c:Nat)(src:Option Nat)(es:List AV)(n2:Nat):Option (List AV):=match P.underlying t with
 |some (.slice e)=>match P.info? e with|some ie=>if t=t2/\z=ie.size/\n*ie.size<=cs.length/\es.length=n2*ie.size/\n+n2<=c/\es.all AV.one=true/\(∀q,src=some q->q=ie.size)then some (cs.take (n*ie.size)++es)else none|none=>none
 |none=>none|_=>none
theorem zPS{P:Program}{G:Gh}{σ:vD}{w:World}(hR:yM G σ w){H:List (Nat×yL)}{y:AV}{v:Value}{sr:Option (Nat×List AV)}{es:List AV}{n2 z2 sz:Nat}(hs:A2 H y=some (sr,es,n2,z2))(hn2:n2≠0)(c2:es.length=n2*sz)(hz:∀q,sr=some q->z2=sz)(hrd:∀j c2,sr=some (j,c2)->σ.H j=some (.row c2))(hyy:V G w y v):∃(b2 off2 c:Nat)(news:List Value),v=.slice (some ⟨b2,off2,none⟩) n2 c/\news.length=n2*sz/\VL G w es news/\∀j u,news[j]?=some u->w.cell? ⟨b2,off2+j,none⟩=some u:=by
 unfold A2 at hs;split at hs
 ·rename_i j off m mc zz;split at hs
  ·rename_i c0 hl;cases hs;have hrd':σ.H j=some (.row c0):=hrd _ _ rfl;simp only[V]at hyy;obtain⟨b2,cap,hb2,hcc,o2,hye,⟨eo,_⟩|⟨e0,_⟩⟩|⟨⟨e0,_⟩,_⟩:=hyy;rotate_left;·exact(hn2 (by omega)).elim
   ·exact(hn2 e0).elim
   have eo':=eo.symm;subst eo';obtain⟨_,vs,T,hh,hvp⟩:=hR.blk j b2 _ hb2 hrd';have hzz:z2=sz:=hz _ rfl;subst hzz;obtain⟨us,h1,h2,h3⟩:=fR.part hvp c2;refine⟨b2,off,cap,us,hye,h2,h1,λk v hk=>?_⟩;have:=h3 k v hk;simp only[World.cell?,hh];simpa using this
  ·cases hs
 ·cases hs;simp only[V]at hyy;obtain⟨cap2,_,⟨_,e0,_⟩|⟨b2,off,hye,hC,_⟩⟩:=hyy;·exact(hn2 e0).elim
  ·obtain⟨vs2,hv2,hcell2⟩:=VC.cells _ _ _ hC;refine⟨b2,off,cap2,vs2,hye,by rw[VL.length _ _ hv2,c2],hv2,λj v hj=>?_⟩;obtain⟨hj1,hj2⟩:=List.getElem?_eq_some_iff.1 hj;rw[hcell2 j hj1,hj2]
 ·cases hs
theorem zNn{G:Gh}{w:World}{H:List (Nat×yL)}{y:AV}{v:Value}{sr:Option (Nat×List AV)}{es:List AV}{z2:Nat}(hs:A2 H y=some (sr,es,0,z2))(hyy:V G w y v):∃b2 c2,v=.slice b2 0 c2:=by
 unfold A2 at hs;split at hs
 ·split at hs
  ·cases hs;simp only[V]at hyy;rcases hyy with⟨b2,cap,_,_,o2,hye,_⟩|⟨_,_,p,hye⟩<;>exact⟨_,_,hye⟩
  ·cases hs
 ·cases hs;simp only[V]at hyy;obtain⟨cap2,_,⟨_,_,_,h2,_⟩|⟨b,off,h2,_⟩⟩:=hyy<;>exact⟨_,_,h2⟩
 ·cases hs
set_option maxHeartbeats 2000000 in theorem zTU{P:Program}{dst:Option Tmp}{type:TypeId}{pos:String}{after:Array Edge}{guard:Option (Nat×Bool)}{t t2:TypeId}{x y:Operand}{ev:Operand->AV}{H:List (Nat×yL)}{cs es:List AV}{i n c z n2 z2:Nat}{sr:Option (Nat×List AV)}{cs':List AV}(hx0:ev x=.ms i 0 n c z)(hs:A2 H (ev y)=some (sr,es,n2,z2))(h:zJr P t t2 z cs n c (sr.map λ_=>z2) es n2=some cs'):wN P ⟨dst,.call {callee:=.builtin .append,args:=#[x,y],argTypes:=#[t,t2]},type,pos,after,guard⟩ {ev:=ev,rd:=srd sr,wr:=[(i,.row cs,.row cs')],v:=.ms i 0 (n+n2) c z}:=by
 unfold zJr at h;split at h
 ·rename_i e hut;split at h
  ·rename_i ie hie;split at h
   ·rename_i hc;obtain⟨rfl,hz,c1,c2,c3,c7,hz2⟩:=hc;cases h;subst hz;have opx:∀{Z:Op},Z=.call {callee:=.builtin .append,args:=#[x,y],argTypes:=#[t,t]}->x∈Z.operands/\y∈Z.operands:=by rintro _ rfl;simp[Op.operands,Call.operands]
    have exec:∀(a:Act)(w:World)(u:Value)(w':World),(Builtin.append_ #[t,t] type #[a.eval x,a.eval y]).run P w=.ok u w'->(execOp a.eval ⟨dst,.call {callee:=.builtin .append,args:=#[x,y],argTypes:=#[t,t]},type,pos,after,guard⟩).run P w=.ok (.value u) w':=by intro a w u w' hr;simp[execOp,resolve,invoke,builtin,hr]
    refine wN.value λG σ w a hR hx hcn=>?_;have hxx:V G w (ev x) (a.eval x):=hx x (opx rfl).1;have hyy:V G w (ev y) (a.eval y):=hx y (opx rfl).2;have hwr:σ.H i=some (.row cs):=hcn.wr _ _ _ (List.mem_singleton.2 rfl);have happ:∀{G':Gh}{w':World}{Z:yL},yM G' ⟨up σ.H i Z,σ.own,σ.ns⟩ w'->yM G' ((⟨up σ.H i Z,σ.own,σ.ns⟩:vD).stamps [] 0) w':=λq=>by rw[vD.stamps_zero];exact q
    rw[hx0]at hxx;simp only[V]at hxx;by_cases hn2:n2=0
    ·subst hn2;have he0:es=[]:=List.length_eq_zero_iff.1 (by rw[c2];simp);subst he0;obtain⟨b2,cc,hye⟩:=zNn hs hyy;have hvd:(yL.row cs).void->(yL.row (cs.take (n*ie.size)++[])).void:=λh=>by rw[yL.void_row h];simp[yL.void]
     rcases hxx with⟨b,cap,hb,hcap,o1,hxe,hroom⟩|⟨⟨e0,e1⟩,hN,p,hxe⟩;rotate_left
     ·subst e0;have hr:=qZ (P:=P) (w:=w) (ty:=type) hut hie p b2 0 0 cc (Nat.le_refl 0) (by cases b2<;>simp);refine⟨_,w,G,exec a w _ _ (by rw[hxe,hye];exact hr),vL.refl _ _,happ (hR.tell hwr (by simp) (λb' hbk=>?_) hvd),?_⟩
      ·obtain⟨vs,T,h1,us,rest,h2,h3⟩:=hbk;refine⟨vs,T,h1,us.take (0*ie.size),us.drop (0*ie.size)++rest,by rw[h2,<-List.append_assoc,List.take_append_drop],?_⟩;rw[List.append_nil];exact VL.take _ _ _ h3
      ·simp only[V];exact .inr ⟨⟨(by first|rfl|trivial),e1⟩,hN,p,(by first|rfl|trivial)⟩
     have hr:=qZ (P:=P) (w:=w) (ty:=type) hut hie (some ⟨b,o1,none⟩) b2 n cap cc (by omega) (by cases b2<;>simp);refine⟨_,w,G,exec a w _ _ (by rw[hxe,hye];exact hr),vL.refl _ _,happ (hR.tell hwr (by simp) (λb' hbk=>?_) hvd),?_⟩
     ·obtain⟨vs,T,h1,us,rest,h2,h3⟩:=hbk;refine⟨vs,T,h1,us.take (n*ie.size),us.drop (n*ie.size)++rest,by rw[h2,<-List.append_assoc,List.take_append_drop],?_⟩;rw[List.append_nil];exact VL.take _ _ _ h3
     ·simp only[V];exact .inl ⟨b,cap,hb,⟨by omega,hcap.2⟩,o1,rfl,hroom⟩
    ·rcases hxx with⟨b,cap,hb,hcap,o1,hxe,hroom⟩|⟨⟨e0,e1⟩,_⟩;rotate_left;·exact absurd c3 (by omega)
     obtain⟨b2,off2,cc,news,hye,hnl,hnv,hnc⟩:=zPS (P:=P) hR hs hn2 c2 (λq hq=>hz2 z2 (by rw[hq];rfl)) (λj c0 hj=>hcn.rd _ _ (by rw[hj];exact List.mem_singleton.2 rfl)) hyy;rcases hroom with⟨rfl,vs,T,hh,hroom0⟩|⟨_,h00⟩;rotate_left;·exact absurd h00 (Nat.lt_irrefl _)
     obtain⟨_,vs1,T1,hh1,us,rest,hvs,hus⟩:=hR.blk i b _ hb hwr;have e0:vs=vs1/\T=T1:=by rw[hh]at hh1;cases hh1;exact⟨rfl,rfl⟩
     obtain⟨e0,e00⟩:=e0;subst e0;subst e00;have hul:=VL.length _ _ hus;have hroom:n+n2<=cap:=by omega
     have hmul:(n+n2)*ie.size<=cap*ie.size:=Nat.mul_le_mul_right _ hroom;have hfit:0+n*ie.size+news.length<=vs.size:=by rw[Nat.add_mul]at hmul;omega
     have hr:=pW (P:=P) (w:=w) (ty:=type) hut hie b 0 n cap vs hh ⟨b2,off2,none⟩ n2 cc news hnl (λj u hj=>by rw[Addr.add_lit];exact hnc j u hj) (VL.all_one _ _ hnv c7) hroom hfit;have hsz:vs.size<=(vs.toList.take (0+n*ie.size)++news++vs.toList.drop (0+n*ie.size+news.length)).length:=by simp only[List.length_append,List.length_take,List.length_drop,Array.length_toList];omega
     have hpre:vs.toList.take (0+n*ie.size)=us.take (n*ie.size):=by rw[hvs,Nat.zero_add,List.take_append_of_le_length (by omega)]
     have hE1:=vL.setRow hR hb (vs.toList.take (0+n*ie.size)++news++vs.toList.drop (0+n*ie.size+news.length)).toArray (λo T' eo=>by rw[hh]at eo;cases eo;simpa using hsz);have hblk:vZ G (w.setRow b (vs.toList.take (0+n*ie.size)++news++vs.toList.drop (0+n*ie.size+news.length)).toArray) b (.row (cs.take (n*ie.size)++es)):=by refine⟨_,T,setRow_heap w b vs _ T _ hh,us.take (n*ie.size)++news,vs.toList.drop (0+n*ie.size+news.length),by rw[hpre],VL.append _ _ _ _ (VL.mono hE1 _ _ (VL.take _ _ _ hus)) (VL.mono hE1 _ _ hnv)⟩
     have hR1:=hR.setRowX hb (by rw[hwr];simp) (vs.toList.take (0+n*ie.size)++news++vs.toList.drop (0+n*ie.size+news.length)) (λo T' eo=>by rw[hh]at eo;cases eo;simpa using hsz) (.row (cs.take (n*ie.size)++es)) hblk;refine⟨_,_,G,exec a w _ _ (by rw[hxe,hye];exact hr),hE1,happ hR1,?_⟩;simp only[V];refine .inl ⟨b,cap,hb,⟨c3,hcap.2⟩,0,rfl,.inl ⟨rfl,_,T,setRow_heap w b vs _ T _ hh,?_⟩⟩;rw[List.size_toArray];exact Nat.le_trans hroom0 hsz
   ·cases h
  ·cases h
 ·cases h
 ·cases h
theorem zTV{P:Program}{dst:Option Tmp}{type:TypeId}{pos:String}{after:Array Edge}{guard:Option (Nat×Bool)}{t e:TypeId}{ie:TypeInfo}{zv:Value}{x:Operand}{ev:Operand->AV}{cs:List AV}{i off n c z:Nat}(hut:P.underlying t=some (.slice e))(hie:P.info? e=some ie)(hz:ie.zero=some zv)(hsz:zv.cells.size=z)(h1:zv.cells.toList.all Value.oneCell'=true)(hx0:ev x=.ms i off n c z)(hl:cs.length<=off):wN P ⟨dst,.call {callee:=.builtin .clear,args:=#[x],argTypes:=#[t]},type,pos,after,guard⟩ {ev:=ev,wr:=[(i,.row cs,.row cs)],v:=.tup []}:=by
 have exec:∀(a:Act)(w:World)(u:Value)(w':World),(Builtin.clear_ #[t] type #[a.eval x]).run P w=.ok u w'->(execOp a.eval ⟨dst,.call {callee:=.builtin .clear,args:=#[x],argTypes:=#[t]},type,pos,after,guard⟩).run P w=.ok (.value u) w':=by intro a w u w' hr;simp[execOp,resolve,invoke,builtin,hr]
 refine wN.value λG σ w a hR hx hcn=>?_;have hxx:V G w (ev x) (a.eval x):=hx x (by simp[Op.operands,Call.operands]);have hwr:σ.H i=some (.row cs):=hcn.wr _ _ _ (List.mem_singleton.2 rfl);have happ:∀{G':Gh}{w':World}{Z:yL},yM G' ⟨up σ.H i Z,σ.own,σ.ns⟩ w'->yM G' ((⟨up σ.H i Z,σ.own,σ.ns⟩:vD).stamps [] 0) w':=λq=>by rw[vD.stamps_zero];exact q
 rw[hx0]at hxx;simp only[V]at hxx;rcases hxx with⟨b,cap,hb,hcap,o1,hxe,hroom⟩|⟨⟨e0,_⟩,_,p,hxe⟩;rotate_left
 ·subst e0;have hr:(Builtin.clear_ #[t] type #[.slice p 0 0]).run P w=.ok (.tuple #[]) w:=by cases p<;>simp[Builtin.clear_,run_underlying hut]
  exact⟨_,w,G,exec a w _ _ (by rw[hxe];exact hr),vL.refl _ _,happ (hR.tell hwr (by simp) (λ_ h=>h) id),by simp only[V];exact⟨[],rfl,by simp only[VL]⟩⟩
 by_cases hn:n=0
 ·subst hn;have hr:(Builtin.clear_ #[t] type #[.slice (some ⟨b,o1,none⟩) 0 cap]).run P w=.ok (.tuple #[]) w:=by simp[Builtin.clear_,run_underlying hut]
  exact⟨_,w,G,exec a w _ _ (by rw[hxe];exact hr),vL.refl _ _,happ (hR.tell hwr (by simp) (λ_ h=>h) id),by simp only[V];exact⟨[],rfl,by simp only[VL]⟩⟩
 ·rcases hroom with⟨rfl,vs,T,hh,hroom0⟩|⟨h0,_⟩;rotate_left;·omega
  obtain⟨_,vs1,T1,hh1,us,rest,hvs,hus⟩:=hR.blk i b _ hb hwr;have e0:vs=vs1/\T=T1:=by rw[hh]at hh1;cases hh1;exact⟨rfl,rfl⟩
  obtain⟨e0,e00⟩:=e0;subst e0;subst e00;have hul:=VL.length _ _ hus;obtain⟨news,hnews⟩:∃news,news=(Builtin.zeroCells zv.cells n).toList:=⟨_,rfl⟩;have hnl:news.length=n*z:=by rw[hnews,Array.length_toList,size_zeroCells,hsz]
  have hmul:n*z<=cap*z:=Nat.mul_le_mul_right _ (by omega);have hone:∀v∈news,v.oneCell'=true:=by
   intro v hv;rw[hnews]at hv;obtain⟨j,hj,rfl⟩:=List.getElem_of_mem hv;rw[Array.length_toList,size_zeroCells]at hj;have hpos:0<zv.cells.size:=by
    rcases Nat.eq_zero_or_pos zv.cells.size with e|e;·rw[e,Nat.mul_zero]at hj;exact absurd hj (Nat.not_lt_zero _)
    ·exact e
   have hj2:=Nat.mod_lt j hpos;simp only[Builtin.zeroCells,Array.getElem_toList,Array.getElem_map,Array.getElem_range];rw[getElem!_pos zv.cells (j%zv.cells.size) hj2];exact List.all_eq_true.1 h1 _ (Array.mem_toList_iff.2 (Array.getElem_mem hj2))
  have hst:=run_storeCells_at P b o1 T news 0 vs w hh (by omega) hone;simp only[Nat.add_zero]at hst;have hr:(Builtin.clear_ #[t] type #[.slice (some ⟨b,o1,none⟩) n cap]).run P w=.ok (.tuple #[]) (w.setRow b (vs.toList.take o1++news++vs.toList.drop (o1+news.length)).toArray):=by cases n with|zero=>exact(hn rfl).elim|succ m=>simp[Builtin.clear_,run_underlying hut,rT hie hz,<-hnews,hst]
  have hsz':vs.size<=(vs.toList.take o1++news++vs.toList.drop (o1+news.length)).length:=by simp only[List.length_append,List.length_take,List.length_drop,Array.length_toList];omega
  have hE1:=vL.setRow hR hb (vs.toList.take o1++news++vs.toList.drop (o1+news.length)).toArray (λo T' eo=>by rw[hh]at eo;cases eo;simpa using hsz');have hpre:vs.toList.take o1=us++rest.take (o1-us.length):=by rw[hvs,List.take_append,List.take_of_length_le (by omega)]
  have hblk:vZ G (w.setRow b (vs.toList.take o1++news++vs.toList.drop (o1+news.length)).toArray) b (.row cs):=⟨_,T,setRow_heap w b vs _ T _ hh,us,rest.take (o1-us.length)++news++vs.toList.drop (o1+news.length),by rw[hpre];simp,VL.mono hE1 _ _ hus⟩;have hR1:=hR.setRowX hb (by rw[hwr];simp) (vs.toList.take o1++news++vs.toList.drop (o1+news.length)) (λo T' eo=>by rw[hh]at eo;cases eo;simpa using hsz') (.row cs) hblk;exact⟨_,_,G,exec a w _ _ (by rw[hxe];exact hr),hE1,happ hR1,by simp only[V];exact⟨[],rfl,by simp only[VL]⟩⟩
theorem zPT{P:Program}{dst:Option Tmp}{type:TypeId}{pos:String}{after:Array Edge}{guard:Option (Nat×Bool)}{t t2:TypeId}{x y:Operand}{ev:Operand->AV}{s:xB}{i m c z m2:Nat}{o:Own}{cs es:List AV}{cs':List AV}{n':Nat}(hx:ev x=.ms i 0 m c z)(hy:ev y=.sl es m2 o)(hl:look s.H i=some (.cells cs))(h:kL P t t2 (some z) cs m none es m2=some (cs',n')):wN P ⟨dst,.call {callee:=.builtin .append,args:=#[x,y],argTypes:=#[t,t2]},type,pos,after,guard⟩ {ev:=ev,wr:=[(i,.cells cs,.dead)],al:=[(s.nx,.row cs')],v:=.ms s.nx 0 n' n' (aN P t)}:=by
 have hd:H6 ({s with H:=(i,.row cs)::s.H}:xB).H (ev x)=some (.row i cs,m,cs):=by rw[hx];simp[H6,look]
 have hs:A2 ({s with H:=(i,.row cs)::s.H}:xB).H (ev y)=some (none,es,m2,0):=by rw[hy];rfl
 have hz:aC.z (ev x) (.row i cs)=some z:=by rw[hx];rfl
 have k:=zLu (P:=P) (dst:=dst) (type:=type) (pos:=pos) (after:=after) (guard:=guard) (t:=t) (t2:=t2) hd hs (cs':=cs') (n':=n') (by rw[hz];exact h);intro G σ w a K Q hR hv hc hK;have h1:σ.H i=some (.cells cs):=hc.wr _ _ _ (List.mem_singleton.2 rfl);have h2:σ.H s.nx=none:=hc.al _ _ (List.mem_singleton.2 rfl);have hne:s.nx≠i:=λe=>by rw[e]at h2;rw[h1]at h2;cases h2
 refine k G ⟨up σ.H i (.row cs),σ.own,σ.ns⟩ w a K Q (hR.tell h1 (by simp) (λ_ h=>h) (λh=>h.elim)) hv ⟨λj X hm=>?_,λj X Y hm=>?_,λj X hm=>?_,λk hm=>?_,λhm=>?_,λj a b=>?_,λj k v hm=>?_,λj k X Y hm=>?_⟩ λu G' w' hE hR' hu=>hK u G' w' hE ?_ hu;·exact absurd hm (by simp[srd])
 ·simp only[aC.wr,List.mem_singleton,Prod.mk.injEq]at hm;obtain⟨rfl,rfl,-⟩:=hm;exact yR _ _ _
 ·simp only[List.mem_singleton,Prod.mk.injEq]at hm;obtain⟨rfl,-⟩:=hm;show up σ.H i _ _=none;rw[xO _ _ hne];exact h2
 ·exact absurd hm (by simp)
 ·simp at hm
 ·exact absurd (Nat.lt_of_le_of_lt a b) (Nat.lt_irrefl 0|>λq=>by intro r;exact Nat.not_lt_zero _ b)
 ·exact absurd hm (by simp)
 ·exact absurd hm (by simp)
 ·rw[zFP];have e:(({ev:=ev,rd:=srd none,wr:=aC.wr (.row i cs),al:=[(s.nx,.row cs')],v:=.ms s.nx 0 n' n' (aN P t)}:LA).app ⟨up σ.H i (.row cs),σ.own,σ.ns⟩)=⟨up (up (up σ.H i (.row cs)) i .dead) s.nx (.row cs'),σ.own,σ.ns⟩:=zFP;rw[show(none:Option (Nat×List AV))=none from rfl,e]at hR';have hf:up (up (up σ.H i (.row cs)) i .dead) s.nx (.row cs')=up (up σ.H i .dead) s.nx (.row cs'):=by
   funext k;by_cases e1:k=s.nx;·subst e1;rw[yR,yR]
   ·rw[xO _ _ e1,xO _ _ e1];by_cases e2:k=i;·subst e2;rw[yR,yR]
    ·rw[xO _ _ e2,xO _ _ e2,xO _ _ e2]
  rw[hf]at hR';exact hR'
mutual def AV.Data:AV->Prop|.val _=>True|.agg cs=>AV.DataL cs|.tup cs=>AV.DataL cs|.sl es _ o=>o.plain/\AV.DataL es|.ip es=>AV.DataL es|.mp _ _=>False|.ms _ _ _ _ _=>False|.obj _=>False|.clo _ fs cs=>AV.DataL fs/\AV.DataL cs def AV.DataL:List AV->Prop|[]=>True|a::l=>AV.Data a/\AV.DataL l end
mutual theorem V.data{G G':Gh}{w:World}(hL:∀b o,G.L b o->G'.L b o):∀(a:AV)(u:Value),a.Data->V G w a u->V G' w a u
 |.val v,u,_,hv=>by simpa only[V]using hv|.agg cs,u,hd,hv=>by simp only[V,AV.Data]at hd hv⊢;obtain⟨vs,rfl,hl⟩:=hv;exact⟨vs,rfl,VL.data hL cs vs hd hl⟩|.tup cs,u,hd,hv=>by simp only[V,AV.Data]at hd hv⊢;obtain⟨vs,rfl,hl⟩:=hv;exact⟨vs,rfl,VL.data hL cs vs hd hl⟩|.sl es n o,u,hd,hv=>by
  simp only[V,AV.Data]at hd hv⊢;obtain⟨cap,hc,hh⟩:=hv;refine⟨cap,hc,?_⟩;rcases hh with hh|⟨b,off,hu,hcells,ho⟩
  ·refine .inl ⟨hh.1,hh.2.1,hh.2.2.1,hh.2.2.2.1,?_⟩;cases o with|no=>trivial|full=>trivial|nl=>exact hh.2.2.2.2|nn=>exact hh.2.2.2.2|fr=>exact hd.1.elim|z=>trivial|st k sz=>exact hd.1.elim
  ·refine .inr ⟨b,off,hu,VC.data hL es b off hd.2 hcells,?_⟩;cases o with|no=>trivial|full=>exact ho|nl=>exact ho|nn=>trivial|fr=>exact hd.1.elim|z=>exact ho|st k sz=>exact hd.1.elim
 |.ip es,u,hd,hv=>by simp only[V,AV.Data]at hd hv⊢;obtain⟨b,off,hu,hcells⟩:=hv;exact⟨b,off,hu,VC.data hL es b off hd hcells⟩|.mp _ _,_,hd,_=>by simp only[AV.Data]at hd|.ms _ _ _ _ _,_,hd,_=>by simp only[AV.Data]at hd|.obj _,_,hd,_=>by simp only[AV.Data]at hd|.clo f fs cs,u,hd,hv=>by simp only[V,AV.Data]at hd hv⊢;obtain⟨l,r,hu,h1,h2⟩:=hv;exact⟨l,r,hu,VL.data hL fs l hd.1 h1,VL.data hL cs r hd.2 h2⟩theorem VL.data{G G':Gh}{w:World}(hL:∀b o,G.L b o->G'.L b o):∀(as0:List AV)(us:List Value),AV.DataL as0->VL G w as0 us->VL G' w as0 us|[],[],_,_=>by simp only[VL]|a::as0,u::us,hd,hv=>by simp only[VL,AV.DataL]at hd hv⊢;exact⟨V.data hL a u hd.1 hv.1,VL.data hL as0 us hd.2 hv.2⟩|[],_::_,_,hv=>by simp only[VL]at hv|_::_,[],_,hv=>by simp only[VL]at hv theorem VC.data{G G':Gh}{w:World}(hL:∀b o,G.L b o->G'.L b o):∀(as0:List AV)(b off:Nat),AV.DataL as0->VC G w as0 b off->VC G' w as0 b off|[],_,_,_,_=>by simp only[VC]|a::as0,b,off,hd,hv=>by simp only[VC,AV.DataL]at hd hv⊢;obtain⟨h1,⟨v,h2,h3⟩,h4⟩:=hv;exact⟨hL _ _ h1,⟨v,h2,V.data hL a v hd.1 h3⟩,VC.data hL as0 b (off+1) hd.2 h4⟩end
mutual def AV.ren(r:Nat->Nat)(f:Nat->Option Nat):AV->AV|.val v=>.val v|.agg cs=>.agg (AV.renL r f cs)|.tup cs=>.tup (AV.renL r f cs)|.sl es n o=>.sl es n (match o with|.st k sz=>(match f k with|some k'=>.st k' sz|none=>.no)|.full=>.full|.nl=>.nl|.nn=>.nn|.fr=>.no|.z=>.z|.no=>.no)|.ip es=>.ip es|.mp i off=>.mp (r i) off|.ms i off n c sz=>.ms (r i) off n c sz|.obj i=>.obj (r i)|.clo g fs cs=>.clo g (AV.renL r f fs) (AV.renL r f cs)def AV.renL(r:Nat->Nat)(f:Nat->Option Nat):List AV->List AV|[]=>[]|a::l=>AV.ren r f a::AV.renL r f l end
mutual def AV.fine(p:Nat->Prop):AV->Prop|.val _=>True|.agg cs=>AV.fineL p cs|.tup cs=>AV.fineL p cs|.sl es _ _=>AV.DataL es|.ip es=>AV.DataL es|.mp i _=>p i|.ms i _ _ _ _=>p i|.obj i=>p i|.clo _ fs cs=>AV.fineL p fs/\AV.fineL p cs def AV.fineL(p:Nat->Prop):List AV->Prop|[]=>True|a::l=>AV.fine p a/\AV.fineL p l end
structure Ren(G G':Gh)(r:Nat->Nat)(f:Nat->Option Nat)(p:Nat->Prop):Prop where
 F:∀b,¬G.F b->¬G'.F b
 ρ:∀i b,p i->G.ρ i=some b->G'.ρ (r i)=some b
 τ:∀k k' q,f k=some k'->G.τ k=some q->G'.τ k'=some q
 L:∀b o,G.L b o->G'.L b o
 N:∀i,p i->G.N i->G'.N (r i)
mutual theorem V.ren{G G':Gh}{w:World}{r:Nat->Nat}{f:Nat->Option Nat}{p:Nat->Prop}(h:Ren G G' r f p):∀(a:AV)(u:Value),a.fine p->V G w a u->V G' w (a.ren r f) u
 |.val v,u,_,hv=>by simpa only[AV.ren,V]using hv|.agg cs,u,hi,hv=>by simp only[V,AV.fine,AV.ren]at hi hv⊢;obtain⟨vs,rfl,hl⟩:=hv;exact⟨vs,rfl,VL.ren h cs vs hi hl⟩|.tup cs,u,hi,hv=>by simp only[V,AV.fine,AV.ren]at hi hv⊢;obtain⟨vs,rfl,hl⟩:=hv;exact⟨vs,rfl,VL.ren h cs vs hi hl⟩|.sl es n o,u,hi,hv=>by
  simp only[V,AV.fine,AV.ren]at hi hv⊢;obtain⟨cap,hc,hh⟩:=hv;refine⟨cap,hc,?_⟩;rcases hh with⟨rfl,h2,h3,h4,h5⟩|⟨b,off,hu,hcells,ho⟩
  ·refine .inl ⟨rfl,h2,h3,h4,?_⟩;cases o with|no=>trivial|full=>trivial|nl=>exact h5|nn=>exact h5|fr=>trivial|z=>trivial|st k sz=>simp only;cases hk:f k with|none=>trivial|some k'=>exact h5.imp λq hq=>h.τ k k' q hk hq
  ·refine .inr ⟨b,off,hu,VC.data h.L es b off hi hcells,?_⟩;cases o with|no=>trivial|full=>exact ho|nl=>exact ho|nn=>trivial|fr=>trivial|z=>exact ho|st k sz=>simp only;cases hk:f k with|none=>trivial|some k'=>exact⟨ho.1.imp λq hq=>h.τ k k' q hk hq,ho.2.imp id λ⟨q1,q2,q3⟩=>⟨q1,h.F _ q2,h.τ k k' _ hk q3⟩⟩
 |.ip es,u,hi,hv=>by simp only[V,AV.fine,AV.ren]at hi hv⊢;obtain⟨b,off,hu,hcells⟩:=hv;exact⟨b,off,hu,VC.data h.L es b off hi hcells⟩|.mp i off,u,hi,hv=>by simp only[V,AV.fine,AV.ren]at hi hv⊢;obtain⟨b,hb,hu⟩:=hv;exact⟨b,h.ρ _ _ hi hb,hu⟩|.ms i off n c sz,u,hi,hv=>by
  simp only[V,AV.fine,AV.ren]at hi hv⊢;rcases hv with⟨b,cap,hb,hu⟩|⟨hn,hN,hu⟩;·exact .inl ⟨b,cap,h.ρ _ _ hi hb,hu⟩
  ·exact .inr ⟨hn,h.N _ hi hN,hu⟩|.obj i,u,hi,hv=>by simp only[V,AV.fine,AV.ren]at hi hv⊢;obtain⟨b,hb,hu⟩:=hv;exact⟨b,h.ρ _ _ hi hb,hu⟩|.clo g fs cs,u,hi,hv=>by simp only[V,AV.fine,AV.ren]at hi hv⊢;obtain⟨l,r',hu,h1,h2⟩:=hv;exact⟨l,r',hu,VL.ren h fs l hi.1 h1,VL.ren h cs r' hi.2 h2⟩theorem VL.ren{G G':Gh}{w:World}{r:Nat->Nat}{f:Nat->Option Nat}{p:Nat->Prop}(h:Ren G G' r f p):∀(as0:List AV)(us:List Value),AV.fineL p as0->VL G w as0 us->VL G' w (AV.renL r f as0) us|[],[],_,_=>by simp only[AV.renL,VL]|a::as0,u::us,hi,hv=>by simp only[VL,AV.fineL,AV.renL]at hi hv⊢;exact⟨V.ren h a u hi.1 hv.1,VL.ren h as0 us hi.2 hv.2⟩|[],_::_,_,hv=>by simp only[VL]at hv|_::_,[],_,hv=>by simp only[VL]at hv end
mutual def AV.arg(p:Nat->Prop):AV->Prop|.val _=>True|.agg cs=>AV.argL p cs|.tup cs=>AV.argL p cs|.sl es _ o=>o.plain/\AV.DataL es|.ip es=>AV.DataL es|.mp i _=>p i|.ms i _ _ _ _=>p i|.obj i=>p i|.clo _ fs cs=>AV.argL p fs/\AV.argL p cs def AV.argL(p:Nat->Prop):List AV->Prop|[]=>True|a::l=>AV.arg p a/\AV.argL p l end
mutual theorem V.unren{G G':Gh}{w:World}{r:Nat->Nat}{f:Nat->Option Nat}{p:Nat->Prop}(hρ:∀i,p i->G'.ρ i=G.ρ (r i)/\(G.N (r i)->G'.N i))(hL:∀b o,G.L b o->G'.L b o):∀(a:AV)(u:Value),a.arg p->V G w (a.ren r f) u->V G' w a u
 |.val v,u,_,hv=>by simpa only[AV.ren,V]using hv|.agg cs,u,hi,hv=>by simp only[V,AV.arg,AV.ren]at hi hv⊢;obtain⟨vs,rfl,hl⟩:=hv;exact⟨vs,rfl,VL.unren hρ hL cs vs hi hl⟩|.tup cs,u,hi,hv=>by simp only[V,AV.arg,AV.ren]at hi hv⊢;obtain⟨vs,rfl,hl⟩:=hv;exact⟨vs,rfl,VL.unren hρ hL cs vs hi hl⟩|.sl es n o,u,hi,hv=>by simp only[V,AV.arg,AV.ren]at hi hv⊢;obtain⟨cap,hc,hh⟩:=hv;refine⟨cap,hc,?_⟩;cases o with
  |no=>
   rcases hh with⟨q1,q2,q3,q4,_⟩|⟨b,off,hu,hcells,ho⟩;·exact .inl ⟨q1,q2,q3,q4,trivial⟩
   ·exact .inr ⟨b,off,hu,VC.data hL es b off hi.2 hcells,ho⟩|full=>
   rcases hh with⟨q1,q2,q3,q4,_⟩|⟨b,off,hu,hcells,ho⟩;·exact .inl ⟨q1,q2,q3,q4,trivial⟩
   ·exact .inr ⟨b,off,hu,VC.data hL es b off hi.2 hcells,ho⟩|nl=>
   rcases hh with⟨q1,q2,q3,q4,q5⟩|⟨b,off,hu,hcells,ho⟩;·exact .inl ⟨q1,q2,q3,q4,q5⟩
   ·exact ho.elim|nn=>
   rcases hh with⟨q1,q2,q3,q4,q5⟩|⟨b,off,hu,hcells,ho⟩;·exact .inl ⟨q1,q2,q3,q4,q5⟩
   ·exact .inr ⟨b,off,hu,VC.data hL es b off hi.2 hcells,trivial⟩|fr=>exact hi.1.elim|z=>
   rcases hh with⟨q1,q2,q3,q4,_⟩|⟨b,off,hu,hcells,ho⟩;·exact .inl ⟨q1,q2,q3,q4,trivial⟩
   ·exact .inr ⟨b,off,hu,VC.data hL es b off hi.2 hcells,ho⟩|st k sz=>exact hi.1.elim
 |.ip es,u,hi,hv=>by simp only[V,AV.arg,AV.ren]at hi hv⊢;obtain⟨b,off,hu,hcells⟩:=hv;exact⟨b,off,hu,VC.data hL es b off hi hcells⟩|.mp i off,u,hi,hv=>by simp only[V,AV.arg,AV.ren]at hi hv⊢;obtain⟨b,hb,hu⟩:=hv;exact⟨b,(hρ _ hi).1.trans hb,hu⟩|.ms i off n c sz,u,hi,hv=>by
  simp only[V,AV.arg,AV.ren]at hi hv⊢;rcases hv with⟨b,cap,hb,hu⟩|⟨hn,hN,hu⟩;·exact .inl ⟨b,cap,(hρ _ hi).1.trans hb,hu⟩
  ·exact .inr ⟨hn,(hρ _ hi).2 hN,hu⟩|.obj i,u,hi,hv=>by simp only[V,AV.arg,AV.ren]at hi hv⊢;obtain⟨b,hb,hu⟩:=hv;exact⟨b,(hρ _ hi).1.trans hb,hu⟩|.clo g fs cs,u,hi,hv=>by simp only[V,AV.arg,AV.ren]at hi hv⊢;obtain⟨l,r',hu,h1,h2⟩:=hv;exact⟨l,r',hu,VL.unren hρ hL fs l hi.1 h1,VL.unren hρ hL cs r' hi.2 h2⟩theorem VL.unren{G G':Gh}{w:World}{r:Nat->Nat}{f:Nat->Option Nat}{p:Nat->Prop}(hρ:∀i,p i->G'.ρ i=G.ρ (r i)/\(G.N (r i)->G'.N i))(hL:∀b o,G.L b o->G'.L b o):∀(as0:List AV)(us:List Value),AV.argL p as0->VL G w (AV.renL r f as0) us->VL G' w as0 us|[],[],_,_=>by simp only[VL]|a::as0,u::us,hi,hv=>by simp only[VL,AV.argL,AV.renL]at hi hv⊢;exact⟨V.unren hρ hL a u hi.1 hv.1,VL.unren hρ hL as0 us hi.2 hv.2⟩|[],_::_,_,hv=>by simp only[AV.renL,VL]at hv|_::_,[],_,hv=>by simp only[AV.renL,VL]at hv end
def yL.ren(r:Nat->Nat)(f:Nat->Option Nat):yL->yL|.cells cs=>.cells (AV.renL r f cs)|.obj o=>.obj o|.row cs=>.row cs|.dead=>.dead
theorem yL.void_ren{r:Nat->Nat}{f:Nat->Option Nat}{X:yL}(h:X.void):(X.ren r f).void:=by cases X with|cells cs=>exact h.elim|obj o=>exact h.elim|row cs=>exact h|dead=>trivial
def yL.fine(p:Nat->Prop):yL->Prop|.cells cs=>AV.fineL p cs|.obj _=>True|.row cs=>AV.DataL cs|.dead=>True
def yL.arg(p:Nat->Prop):yL->Prop|.cells cs=>AV.argL p cs|.obj _=>True|.row cs=>AV.DataL cs|.dead=>False
theorem vZ.ren{G G':Gh}{w:World}{r:Nat->Nat}{f:Nat->Option Nat}{p:Nat->Prop}(h:Ren G G' r f p){X:yL}{b:Nat}(hi:X.fine p)(hX:vZ G w b X):vZ G' w b (X.ren r f):=by cases X with|cells cs=>obtain⟨vs,T,h1,h2⟩:=hX;exact⟨vs,T,h1,h2.imp λus=>VL.ren h _ us hi⟩|obj o=>exact hX|row cs=>obtain⟨vs,T,h1,h2⟩:=hX;exact⟨vs,T,h1,h2.imp λus=>VL.data h.L _ us hi⟩|dead=>exact hX
theorem vZ.unren{G G':Gh}{w:World}{r:Nat->Nat}{f:Nat->Option Nat}{p:Nat->Prop}(hρ:∀i,p i->G'.ρ i=G.ρ (r i)/\(G.N (r i)->G'.N i))(hL:∀b o,G.L b o->G'.L b o){X:yL}{b:Nat}(hi:X.arg p)(hX:vZ G w b (X.ren r f)):vZ G' w b X:=by cases X with|cells cs=>obtain⟨vs,T,h1,h2⟩:=hX;exact⟨vs,T,h1,h2.imp λus=>VL.unren hρ hL _ us hi⟩|obj o=>exact hX|row cs=>obtain⟨vs,T,h1,h2⟩:=hX;exact⟨vs,T,h1,h2.imp λus=>VL.data hL _ us hi⟩|dead=>exact hi.elim
def place(l:List Nat)(k:Nat):Option Nat:=idx k l 0
theorem nA{l:List Nat}{k t:Nat}(h:place l k=some t):l[t]?=some k:=by have:=(zFN l 0 t h).2;simpa using this
theorem zLr{k:Nat}:∀(l:List Nat)(t:Nat),k∈l->∃r,idx k l t=some r|j::l,t,h=>by simp only[idx];cases hb:Nat.beq k j with|true=>exact⟨t,rfl⟩|false=>
 rcases List.mem_cons.1 h with rfl|h;·simp at hb
 ·exact zLr l (t+1) h
theorem jR{l:List Nat}{k:Nat}(h:k∈l):∃t,place l k=some t:=zLr l 0 h
def tJ(keep:List Nat)(i:Nat):Nat:=(place keep i).getD 0
def mI(H:List (Nat×yL))(keep ks:List Nat):List Nat->Nat->List (Nat×yL)|[],_=>[]|i::l,j=>(j,((look H i).getD (.cells [])).ren (tJ keep) (place ks))::mI H keep ks l (j+1)
theorem kU{H:List (Nat×yL)}{keep ks:List Nat}:∀(l:List Nat)(j t:Nat),look (mI H keep ks l j) t=if j<=t then(l[t-j]?).map λi=>((look H i).getD (.cells [])).ren (tJ keep) (place ks)else none
 |[],j,t=>by simp[mI,look]|i::l,j,t=>by
  simp only[mI,look];by_cases e:t=j;·subst e;simp
  ·have:Nat.beq t j=false:=oZ e;simp only[this,cond_false];rw[kU l (j+1) t];by_cases h:j+1<=t;·rw[if_pos h,if_pos (by omega),show t-j=(t-(j+1))+1 by omega];simp
   ·rw[if_neg h,if_neg (by omega)]
def range':Nat->Nat->List Nat|_,0=>[]|j,n+1=>j::range' (j+1) n
theorem lS{k:Nat}:∀(n j:Nat),k∈range' j n↔j<=k/\k<j+n|0,j=>by simp[range']|n+1,j=>by simp only[range',List.mem_cons,lS n (j+1)];omega
def jS(keep ks:List Nat)(s:xB):xB:=⟨mI s.H keep ks keep 0,keep.length,range' 0 ks.length,ks.length,[]⟩
def eA:List Nat->Bool|[]=>true|k::l=>!(l.any (Nat.beq k))&&eA l
theorem pF:∀l:List Nat,eA l=true->l.Nodup|[],_=>.nil|k::l,h=>by simp only[eA,Bool.and_eq_true]at h;rw[List.nodup_cons];refine⟨λhm=>?_,pF l h.2⟩;rw[uK.2 hm]at h;simp at h
def reB(na:Nat)(keep ks:List Nat)(s:xB):Bool:=eA keep&&eA ks&&(keep.all λi=>(look s.H i).isSome)&&(ks.all λk=>s.own.any (Nat.beq k))&&Nat.ble na keep.length&&(range' 0 na).all λi=>match keep[i]? with|some j=>Nat.beq j i|none=>false
def nV(keep:List Nat)(s:xB):List Nat->Prop|[]=>True|i::l=>((look s.H i).getD (.cells [])).fine (λi=>i∈keep)/\nV keep s l
theorem H7{keep:List Nat}{s:xB}:∀{l:List Nat}{i:Nat},nV keep s l->i∈l->((look s.H i).getD (.cells [])).fine (λi=>i∈keep)
 |j::l,i,h,hi=>by
  rcases List.mem_cons.1 hi with rfl|hi;·exact h.1
  ·exact H7 h.2 hi
theorem zFQ{na:Nat}{keep ks:List Nat}{s:xB}(hB:reB na keep ks s=true)(hf:nV keep s keep){G0 G:Gh}{W w:World}(h0:∀i,na<=i->G0.ρ i=none/\¬G0.N i)(h0τ:∀k,G0.τ k=none)(hE:vL G0 W G w)(hR:yM G (xD (uI 0) s) w):∃G',vL G0 W G' w/\(jS keep ks s).On (uI 0) 0/\yM G' (xD (uI 0) (jS keep ks s)) w/\Ren G G' (tJ keep) (place ks) (λi=>i∈keep):=by
 simp only[reB,Bool.and_eq_true,List.all_eq_true]at hB;obtain⟨⟨⟨⟨⟨b1,b2⟩,b3⟩,b4⟩,b5⟩,b6⟩:=hB;have n1:=pF _ b1;have n2:=pF _ b2;have hσ:∀i,(xD (uI 0) s).H i=look s.H i:=by intro i;show(match look s.H i with|some X=>some X|none=>none)=_;cases look s.H i<;>rfl
 have hlook:∀j,look (mI s.H keep ks keep 0) j=(keep[j]?).map λi=>((look s.H i).getD (.cells [])).ren (tJ keep) (place ks):=by intro j;rw[kU];simp
 have hσ':∀j,(xD (uI 0) (jS keep ks s)).H j=(keep[j]?).map λi=>((look s.H i).getD (.cells [])).ren (tJ keep) (place ks):=by intro j;show(match look (mI s.H keep ks keep 0) j with|some X=>some X|none=>none)=_;rw[hlook];cases keep[j]?<;>rfl
 have hkept:∀i,i∈keep->∃X,look s.H i=some X:=λi hi=>Option.isSome_iff_exists.1 (b3 i hi);have hown':∀k,(xD (uI 0) (jS keep ks s)).own k=true↔k<ks.length:=by intro k;show((range' 0 ks.length).any (Nat.beq k)||false)=true↔_;rw[Bool.or_false,uK,lS];omega
 let G':Gh:={G with ρ:=λj=>(keep[j]?).bind G.ρ,τ:=λk=>(ks[k]?).bind G.τ,N:=λj=>∃i,keep[j]?=some i/\G.N i};have hNG:∀j i,keep[j]?=some i->(G'.N j↔G.N i):=by intro j i h;exact⟨λ⟨i',h1,h2⟩=>by rw[h]at h1;cases h1;exact h2,λh2=>⟨i,h,h2⟩⟩
 have hρG:∀j i,keep[j]?=some i->G'.ρ j=G.ρ i:=by intro j i h;show(keep[j]?).bind G.ρ=_;rw[h];rfl
 have hτG:∀j i,ks[j]?=some i->G'.τ j=G.τ i:=by intro j i h;show(ks[j]?).bind G.τ=_;rw[h];rfl
 have hρ':∀j b,G'.ρ j=some b->∃i,keep[j]?=some i/\G.ρ i=some b:=by intro j b h;have h':(keep[j]?).bind G.ρ=some b:=h;cases hk:keep[j]? with|none=>rw[hk]at h';cases h'|some i=>rw[hk]at h';exact⟨i,rfl,h'⟩
 have hstamp:∀k,k<ks.length->∃k1,ks[k]?=some k1/\(xD (uI 0) s).own k1=true:=by intro k hk;refine⟨ks[k],List.getElem?_eq_getElem hk,?_⟩;have:=b4 _ (List.getElem_mem hk);show(s.own.any (Nat.beq ks[k])||false)=true;rw[this];rfl
 have hren:Ren G G' (tJ keep) (place ks) (λi=>i∈keep):=by
  refine⟨λ_ h=>h,λi b hi hb=>?_,λk k' q hk hq=>?_,λ_ _ h=>h,λi hi hN=>?_⟩
  ·obtain⟨t,ht⟩:=jR hi;have:=nA ht;simp only[tJ,ht,Option.getD_some];rw[hρG _ _ this];exact hb
  ·rw[hτG _ _ (nA hk)];exact hq
  ·obtain⟨t,ht⟩:=jR hi;have:=nA ht;simp only[tJ,ht,Option.getD_some];exact(hNG _ _ this).2 hN
 have h6:∀i,i<na->keep[i]?=some i:=by
  intro i hi;have:=b6 i ((lS _ _).2 ⟨Nat.zero_le _,by omega⟩);split at this
  ·rename_i j hj;have:=Nat.eq_of_beq_eq_true this;subst this;exact hj
  ·cases this
 refine⟨G',⟨λi b h=>?_,λk q h=>?_,hE.L,hE.cell,hE.w0,hE.F,hE.newL,hE.room,λi h=>?_⟩,⟨?_,?_,?_,Nat.zero_le _⟩,⟨?_,?_,?_,?_,?_,?_,?_,?_,hR.below,hR.base⟩,hren⟩
 ·have hi:i<na:=by
   rcases Nat.lt_or_ge i na with e|e;·exact e
   ·rw[(h0 i e).1]at h;cases h
  rw[hρG _ _ (h6 i hi)];exact hE.ρ _ _ h
 ·rw[h0τ]at h;cases h
 ·have hi:i<na:=by
   rcases Nat.lt_or_ge i na with e|e;·exact e
   ·exact absurd h (h0 i e).2
  exact(hNG _ _ (h6 i hi)).2 (hE.N _ h)
 ·intro j X hX;have hX':look (mI s.H keep ks keep 0) j=some X:=hX;rw[hlook]at hX';cases hk:keep[j]? with|none=>rw[hk]at hX';cases hX'|some i=>exact(List.getElem?_eq_some_iff.1 hk).1
 ·intro k hk;have:=(lS _ _).1 hk;exact⟨Nat.zero_le _,by simpa[jS]using this.2⟩
 ·intro k h;cases h
 ·intro j;rw[hσ'];cases hk:keep[j]? with|none=>exact⟨λ_=>.inr rfl,λ_=>⟨by show(keep[j]?).bind G.ρ=none;rw[hk];rfl,λ⟨i,h1,_⟩=>by rw[hk]at h1;cases h1⟩,λ⟨i,h1,_⟩=>by rw[hk]at h1;cases h1⟩|some i=>
   obtain⟨X,hX⟩:=hkept i (List.mem_of_getElem? hk);have hd:=hR.dom i;rw[hσ,hX]at hd;rw[hρG _ _ hk,Option.map_some,hX,Option.getD_some];refine⟨λh=>?_,λh=>(by cases h),λh=>⟨(hd.2.2 ((hNG _ _ hk).1 h)).1,λY hY=>?_⟩⟩
   ·rcases hd.1 h with e|e;·exact .inl ((hNG _ _ hk).2 e)
    ·cases e
   ·cases hY;exact yL.void_ren ((hd.2.2 ((hNG _ _ hk).1 h)).2 X rfl)
 ·refine⟨keep.length,λi hi=>?_⟩;rw[hσ',List.getElem?_eq_none hi];rfl
 ·intro i j b hi hj;obtain⟨i',hi',e1⟩:=hρ' i b hi;obtain⟨j',hj',e2⟩:=hρ' j b hj;have hdead:∀{t t':Nat},keep[t]?=some t'->(xD (uI 0) s).H t'=some .dead->(xD (uI 0) (jS keep ks s)).H t=some .dead:=by intro t t' h1 h2;rw[hσ]at h2;rw[hσ',h1,Option.map_some,h2];rfl
  rcases hR.inj i' j' b e1 e2 with this|this|this
  ·left;subst this;exact(List.getElem?_inj (List.getElem?_eq_some_iff.1 hi').1 n1).1 (hi'.trans hj'.symm)
  ·exact .inr (.inl (hdead hi' this))
  ·exact .inr (.inr (hdead hj' this))
 ·intro j b X hb hX;obtain⟨i,hi,e1⟩:=hρ' j b hb;rw[hσ',hi]at hX;simp only[Option.map_some,Option.some.injEq]at hX;subst hX;obtain⟨Y,hY⟩:=hkept i (List.mem_of_getElem? hi);have hfi:=H7 hf (List.mem_of_getElem? hi);rw[hY,Option.getD_some]at hfi⊢;obtain⟨q1,q2⟩:=hR.blk i b Y e1 (by rw[hσ];exact hY);exact⟨q1,q2.ren hren hfi⟩
 ·intro b o hL;obtain⟨q1,q2⟩:=hR.live b o hL;refine⟨q1,λj hj=>?_⟩;obtain⟨i,_,e1⟩:=hρ' j b hj;exact q2 i e1
 ·intro k hk;have hk':ks.length<=k:=hk;show(ks[k]?).bind G.τ=none;rw[List.getElem?_eq_none hk'];rfl
 ·intro k hk;obtain⟨k1,hk1,ho⟩:=hstamp k ((hown' k).1 hk);obtain⟨b,f,t,q1,q2|⟨q2,q3,q4⟩⟩:=hR.own k1 ho;·exact⟨b,f,t,(hτG _ _ hk1).trans q1,.inl q2⟩
  refine⟨b,f,t,(hτG _ _ hk1).trans q1,.inr ⟨q2,λj hj=>?_,q4⟩⟩;obtain⟨i,_,e1⟩:=hρ' j b hj;exact q3 i e1
 ·intro k k' b f t f' t' hk hk' ht ht' l1 l2;obtain⟨k1,e1,o1⟩:=hstamp k ((hown' k).1 hk);obtain⟨k2,e2,o2⟩:=hstamp k' ((hown' k').1 hk');rw[hτG _ _ e1]at ht;rw[hτG _ _ e2]at ht';have:=hR.ownd k1 k2 b f t f' t' o1 o2 ht ht' l1 l2;subst this;exact(List.getElem?_inj (List.getElem?_eq_some_iff.1 e1).1 n2).1 (e1.trans e2.symm)
def xB.Ok(s:xB):Prop:=s.On (uI 0) 0
def Ev(P:Program)(c:Code)(env:List AV)(s:xB)(Q:AX->List AV->xB->Prop):Prop:=s.Ok->Cw P c ⟨env,xD (uI 0) s⟩ λx S=>∃env' s',S=⟨env',xD (uI 0) s'⟩/\s'.Ok/\Q x env' s'
theorem Ev.skip{P:Program}{env:List AV}{s:xB}{Q:AX->List AV->xB->Prop}(h:Q .normal env s):Ev P .skip env s Q:=λho=>Cw.skip ⟨_,_,rfl,ho,h⟩
theorem Ev.label{P:Program}{l:Nat}{env:List AV}{s:xB}{Q:AX->List AV->xB->Prop}(h:Q .normal env s):Ev P (.label l) env s Q:=λho=>Cw.label ⟨_,_,rfl,ho,h⟩
theorem Ev.exit{P:Program}{i:Nat}{env:List AV}{s:xB}{Q:AX->List AV->xB->Prop}(h:Q (.exit i) env s):Ev P (.exit i) env s Q:=λho=>Cw.exit ⟨_,_,rfl,ho,h⟩
theorem Ev.ret{P:Program}{env:List AV}{s:xB}{Q:AX->List AV->xB->Prop}(h:Q .ret env s):Ev P .ret env s Q:=λho=>Cw.ret ⟨_,_,rfl,ho,h⟩
def zPU(next:List AV->xB->Prop)(Q:AX->List AV->xB->Prop):AX->List AV->xB->Prop|.normal,e,s=>next e s|x,e,s=>Q x e s
def zEn(i:Nat)(Q:AX->List AV->xB->Prop):AX->List AV->xB->Prop|.exit j,e,s=>if j=i then Q .normal e s else Q (.exit j) e s|x,e,s=>Q x e s
def tT(fn:Func):Code:=fn.body.getD .skip
def mJ:Code->Code|.seq x _=>x|.cond _ x _=>x|c=>c
def uR:Code->Code|.seq _ y=>y|.cond _ _ y=>y|c=>c
def inn:Code->Code|.loop c=>c|.block _ c=>c|.scope c=>c|c=>c
def knd:Code->Nat|.seq ..=>1|.cond ..=>2|.block ..=>3|.loop ..=>4|.scope ..=>5|_=>0
variable{P:Program}{c:Code}{env:List AV}{s:xB}{Q:AX->List AV->xB->Prop}
end Go.Ab
namespace Go.Ab
open Go Go.RowKit
structure Nb where
 n:Nat
 κ:Gh->Prop
instance:Coe Nat Nb:=⟨λn=>⟨n,λ_=>True⟩⟩
instance(k:Nat):OfNat Nb k:=⟨⟨k,λ_=>True⟩⟩
structure zCu(na:Nb)(G0:Gh):Prop where
 ρ:∀i,na.n<=i->G0.ρ i=none/\¬G0.N i
 τ:∀k,G0.τ k=none
 LF:∀b o,G0.L b o->G0.F b
 κ:na.κ G0
def zWY(G0:Gh)(W:World)(Q:AX->List AV->xB->Prop):Exit->Act->World->Prop:=λe a' w'=>∃x env' s' G',e=AX.toExit x/\Q x env' s'/\vL G0 W G' w'/\s'.Ok/\lC G' ⟨env',xD (uI 0) s'⟩ a' w'
def Dv(P:Program)(na:Nb)(c:Code)(env:List AV)(s:xB)(Q:AX->List AV->xB->Prop):Prop:=∀G0 W,zCu na G0->∀G a w,vL G0 W G w->s.Ok->lC G ⟨env,xD (uI 0) s⟩ a w->c.wp P (zWY G0 W Q) a w
theorem Dv.ofEv{P:Program}{na:Nb}{c:Code}{env:List AV}{s:xB}{Q:AX->List AV->xB->Prop}(h:Ev P c env s Q):Dv P na c env s Q:=by intro G0 W _ G a w hE ho hR;refine wp_mono (h ho G a w hR) ?_;rintro e a' w'⟨x,S,G',rfl,⟨env',s',rfl,h2,h3⟩,h4,h5⟩;exact⟨x,env',s',G',rfl,h3,hE.trans h4,h2,h5⟩
theorem Dv.seq{P:Program}{na:Nb}{x y:Code}{env:List AV}{s:xB}{Q:AX->List AV->xB->Prop}(h:Dv P na x env s (zPU (λe s=>Dv P na y e s Q) Q)):Dv P na (.seq x y) env s Q:=by intro G0 W hB G a w hE ho hR;refine wp_seq (wp_mono (h G0 W hB G a w hE ho hR) ?_);rintro e a' w'⟨x,env',s',G',rfl,h2,h3,h4,h5⟩;cases x with|normal=>exact h2 G0 W hB G' a' w' h3 h4 h5|exit i=>exact⟨.exit i,env',s',G',rfl,h2,h3,h4,h5⟩|ret=>exact⟨.ret,env',s',G',rfl,h2,h3,h4,h5⟩
theorem Dv.cond{P:Program}{na:Nb}{c:Operand}{x y:Code}{env:List AV}{s:xB}{Q:AX->List AV->xB->Prop}{b:Bool}(hc:aev env c=.val (.bool b))(h:Dv P na (if b then x else y) env s Q):Dv P na (.cond c x y) env s Q:=by intro G0 W hB G a w hE ho hR;have hv:=V.aev hR.env c;simp only at hv;rw[hc]at hv;simp only[V]at hv;exact wp_cond hv (h G0 W hB G a w hE ho hR)
theorem Dv.block{P:Program}{na:Nb}{i:Nat}{c:Code}{env:List AV}{s:xB}{Q:AX->List AV->xB->Prop}(h:Dv P na c env s (zEn i Q)):Dv P na (.block i c) env s Q:=by intro G0 W hB G a w hE ho hR;refine wp_block (wp_mono (h G0 W hB G a w hE ho hR) ?_);rintro e a' w'⟨x,env',s',G',rfl,h2,h3,h4,h5⟩;cases x with|normal=>exact⟨.normal,env',s',G',rfl,h2,h3,h4,h5⟩|ret=>exact⟨.ret,env',s',G',rfl,h2,h3,h4,h5⟩|exit j=>
 simp only[AX.toExit,Exit.inBlock,zEn]at h2⊢;by_cases hj:j=i;·rw[if_pos hj]at h2⊢;exact⟨.normal,env',s',G',rfl,h2,h3,h4,h5⟩
 ·rw[if_neg hj]at h2⊢;exact⟨.exit j,env',s',G',rfl,h2,h3,h4,h5⟩
theorem Dv.scope{P:Program}{na:Nb}{c:Code}{env:List AV}{s:xB}{Q:AX->List AV->xB->Prop}(h:Dv P na c env s Q):Dv P na (.scope c) env s Q:=by intro G0 W hB G a w hE ho hR;refine wp_scope_straight (wp_mono (h G0 W hB G a w hE ho hR) ?_);rintro e a' w'⟨x,env',s',G',rfl,h2,h3,h4,h5⟩;cases x with|normal=>exact⟨.normal,env',s',G',rfl,h2,h3,h4,h5⟩|exit i=>exact⟨.exit i,env',s',G',rfl,h2,h3,h4,h5⟩|ret=>exact⟨.ret,env',s',G',rfl,h2,h3,h4,h5⟩
def eB(P:Program)(c:Code)(Q:Exit->Act->World->Prop)(a:Act)(w:World):Prop:=∀(b:Frame)(k:List Item)(cs:List Frame),∃e a' w',Q e a' w'/\Arrives P (lone (b.at a (.code c::.inLoop c::k)) cs w) b k cs e a' w'
theorem eB.step{P:Program}{c:Code}{Q:Exit->Act->World->Prop}{a:Act}{w:World}(h:c.wp P (Exit.then (eB P c Q) Q) a w):eB P c Q a w:=by intro b k cs;obtain⟨e,a₁,w₁,hq,harr⟩:=h b (.inLoop c::k) cs;cases e with|normal=>obtain⟨e₂,a₂,w₂,hq₂,harr₂⟩:=hq b k cs;exact⟨e₂,a₂,w₂,hq₂,.of_steps (Steps.trans harr (.one step_inLoop)) harr₂⟩|exit id=>exact⟨_,a₁,w₁,hq,.pass (x:=.inLoop c) rfl (λ_ _=>.inl (by simp)) harr⟩|goto l=>exact⟨_,a₁,w₁,hq,.pass (x:=.inLoop c) rfl (λ_ _=>.inl (by simp)) harr⟩|ret=>exact⟨_,a₁,w₁,hq,.pass (x:=.inLoop c) rfl (λ_ _=>.inl (by simp)) harr⟩|panic ch=>exact⟨_,a₁,w₁,hq,.pass (x:=.inLoop c) rfl (λ_ _=>.inl (by simp)) harr⟩|outgrown=>exact⟨_,a₁,w₁,hq,.pass (x:=.inLoop c) rfl (λ_ _=>.inl (by simp)) harr⟩
theorem eB.loop{P:Program}{c:Code}{Q:Exit->Act->World->Prop}{a:Act}{w:World}(h:eB P c Q a w):(Code.loop c).wp P Q a w:=by intro b k cs;obtain⟨e,a',w',hq,harr⟩:=h b k cs;exact⟨e,a',w',hq,.of_steps (.one step_loop) harr⟩
def Dl(P:Program)(na:Nb)(c:Code)(env:List AV)(s:xB)(Q:AX->List AV->xB->Prop):Prop:=∀G0 W,zCu na G0->∀G a w,vL G0 W G w->s.Ok->lC G ⟨env,xD (uI 0) s⟩ a w->eB P c (zWY G0 W Q) a w
theorem Dl.step{P:Program}{na:Nb}{c:Code}{env:List AV}{s:xB}{Q:AX->List AV->xB->Prop}(h:Dv P na c env s (zPU (λe s=>Dl P na c e s Q) Q)):Dl P na c env s Q:=by intro G0 W hB G a w hE ho hR;refine eB.step (wp_mono (h G0 W hB G a w hE ho hR) ?_);rintro e a' w'⟨x,env',s',G',rfl,h2,h3,h4,h5⟩;cases x with|normal=>exact h2 G0 W hB G' a' w' h3 h4 h5|exit i=>exact⟨.exit i,env',s',G',rfl,h2,h3,h4,h5⟩|ret=>exact⟨.ret,env',s',G',rfl,h2,h3,h4,h5⟩
theorem Dv.loop{P:Program}{na:Nb}{c:Code}{env:List AV}{s:xB}{Q:AX->List AV->xB->Prop}(h:Dl P na c env s Q):Dv P na (.loop c) env s Q:=λG0 W hB G a w hE ho hR=>eB.loop (h G0 W hB G a w hE ho hR)
def qS(l:List Nat)(i:Nat):Bool:=l.any (Nat.beq i)
def reEnv(keep ks live:List Nat)(j:Nat->Value):List AV->Nat->List AV|[],_=>[]|a::l,t=>(bif qS live t then a.ren (tJ keep) (place ks)else .val (j t))::reEnv keep ks live j l (t+1)
def iT(keep live:List Nat):List AV->Nat->Prop|[],_=>True|a::l,t=>(bif qS live t then a.fine (λi=>i∈keep)else True)/\iT keep live l (t+1)
theorem VL.reEnv{G G':Gh}{w:World}{keep ks live:List Nat}(h:Ren G G' (tJ keep) (place ks) (λi=>i∈keep))(us0:List Value):∀(env:List AV)(us:List Value)(t:Nat),iT keep live env t->VL G w env us->(∀i,us0.getD (t+i) undef=us.getD i undef)->VL G' w (reEnv keep ks live (λt=>us0.getD t undef) env t) us
 |[],[],_,_,_,_=>by simp[Ab.reEnv,VL]|a::as0,u::us,t,hf,hv,hu=>by
  simp only[VL]at hv;simp only[iT]at hf;simp only[Ab.reEnv,VL];refine⟨?_,VL.reEnv h us0 as0 us (t+1) hf.2 hv.2 (λi=>?_)⟩;·cases hm:qS live t with|true=>rw[hm]at hf;exact V.ren h a u hf.1 hv.1|false=>have:=hu 0;simp only[Nat.add_zero,List.getD_cons_zero]at this;simp only[cond_false,this,V]
  ·have:=hu (i+1);rw[show t+1+i=t+(i+1)by omega,this];simp|[],_::_,_,_,h,_=>by simp only[VL]at h|_::_,[],_,_,h,_=>by simp only[VL]at h
theorem lC.reB{na:Nb}{keep ks live:List Nat}{s:xB}{env:List AV}(hB:Ab.reB na.n keep ks s=true)(hf:nV keep s keep)(hfe:iT keep live env 0){G0 G:Gh}{W w:World}{a:Act}(h0:zCu na G0)(hE:vL G0 W G w)(hR:lC G ⟨env,xD (uI 0) s⟩ a w):∃G' j,vL G0 W G' w/\(jS keep ks s).Ok/\lC G' ⟨reEnv keep ks live j env 0,xD (uI 0) (jS keep ks s)⟩ a w:=by obtain⟨G',h1,h2,h3,h4⟩:=zFQ hB hf h0.ρ h0.τ hE hR.st;exact⟨G',λt=>a.tmps.toList.getD t undef,h1,h2,h3,VL.reEnv h4 _ _ _ 0 hfe hR.env (λi=>by rw[Nat.zero_add]),hR.dfr⟩
theorem Dl.re{P:Program}{na:Nb}(keep ks live:List Nat){c:Code}{env:List AV}{s:xB}{Q:AX->List AV->xB->Prop}(hB:Ab.reB na.n keep ks s=true)(hf:nV keep s keep)(hfe:iT keep live env 0)(h:∀j,Dl P na c (reEnv keep ks live j env 0) (jS keep ks s) Q):Dl P na c env s Q:=by intro G0 W h0 G a w hE ho hR;obtain⟨G',j,h1,h2,h3⟩:=hR.reB hB hf hfe h0 hE;exact h j G0 W h0 G' a w h1 h2 h3
def iU:List yL->Nat->List (Nat×yL)|[],_=>[]|X::l,j=>(j,X)::iU l (j+1)
theorem iV:∀(l:List yL)(j t:Nat),look (iU l j) t=if j<=t then l[t-j]? else none
 |[],j,t=>by simp[iU,look]|X::l,j,t=>by
  simp only[iU,look];by_cases e:t=j;·subst e;simp
  ·have:Nat.beq t j=false:=oZ e;simp only[this,cond_false];rw[iV l (j+1) t];by_cases h:j+1<=t;·rw[if_pos h,if_pos (by omega),show t-j=(t-(j+1))+1 by omega];simp
   ·rw[if_neg h,if_neg (by omega)]
def A3(H0:List yL):xB:=⟨iU H0 0,H0.length,[],0,[]⟩
theorem zPV(H0:List yL)(i:Nat):(xD (uI 0) (A3 H0)).H i=H0[i]?:=by show(match look (iU H0 0) i with|some X=>some X|none=>none)=_;rw[iV];simp only[Nat.zero_le,if_true,Nat.sub_zero];cases H0[i]?<;>rfl
theorem wB(s:xB)(i:Nat):(xD (uI 0) s).H i=look s.H i:=by show(match look s.H i with|some X=>some X|none=>none)=_;cases look s.H i<;>rfl
theorem rF(s:xB)(k:Nat):(xD (uI 0) s).own k=s.own.any (Nat.beq k):=by show(s.own.any (Nat.beq k)||false)=_;simp
def uS(P:Program)(f:FuncId)(H0:List yL)(args:List AV)(res:AV)(H1:List yL)(nst:Nat):Prop:=∀G0 W cargs,zCu H0.length G0->yM G0 (xD (uI 0) (A3 H0)) W->VL G0 W args cargs.toList->Calls P f cargs W λe W'=>∃u G' s',e=.returned u/\vL G0 W G' W'/\yM G' (xD (uI 0) s') W'/\V G' W' res u/\(∀i X,H1[i]?=some X->look s'.H i=some X)/\∀k,k<nst->s'.own.any (Nat.beq k)=true
def rV(ι:List Nat)(nx i:Nat):Nat:=match ι[i]? with|some j=>j|none=>nx+(i-ι.length)
def cst(ns nst k:Nat):Option Nat:=bif Nat.blt k nst then some (ns+k)else none
def jE(_:Nat):Option Nat:=none
def O8(r:Nat->Nat)(f:Nat->Option Nat):List Nat->List yL->List yL->List (Nat×yL×yL)|i::ι,X::H0,Y::H1=>(i,X.ren r jE,Y.ren r f)::O8 r f ι H0 H1|_,_,_=>[]
def als(r:Nat->Nat)(f:Nat->Option Nat):Nat->List yL->List (Nat×yL)|nx,Y::H1=>(nx,Y.ren r f)::als r f (nx+1) H1|_,[]=>[]
def tO(ι:List Nat)(nx ns:Nat)(H0 H1:List yL)(nst:Nat)(res:AV):LA:=
  { ev:=λ_=>.val undef
    wr:=O8 (rV ι nx) (cst ns nst) ι H0 H1
    al:=als (rV ι nx) (cst ns nst) nx (H1.drop ι.length)
    ns:=ns
    new:=nst
    v:=res.ren (rV ι nx) (cst ns nst)}
theorem zLq{r:Nat->Nat}{f:Nat->Option Nat}:∀(ι:List Nat)(H0 H1:List yL),ι.length=H0.length->H0.length<=H1.length->∀(i:Nat)(j:Nat)(X Y:yL),ι[i]?=some j->H0[i]?=some X->H1[i]?=some Y->(j,X.ren r jE,Y.ren r f)∈O8 r f ι H0 H1|[],_,_,_,_,i,j,X,Y,h,_,_=>by simp at h|_::_,[],_,h,_,_,_,_,_,_,_,_=>by simp at h|_::_,_::_,[],_,h,_,_,_,_,_,_,_=>by simp at h|a::ι,b::H0,c::H1,h1,h2,i,j,X,Y,h3,h4,h5=>by simp only[O8,List.mem_cons];cases i with|zero=>simp at h3 h4 h5;subst h3 h4 h5;exact .inl rfl|succ i=>simp at h3 h4 h5;exact .inr (zLq ι H0 H1 (by simpa using h1) (by simpa using h2) i j X Y h3 h4 h5)
theorem zPW{r:Nat->Nat}{f:Nat->Option Nat}:∀(ι:List Nat)(H0 H1:List yL)(j:Nat)(X Y:yL),(j,X,Y)∈O8 r f ι H0 H1->j∈ι
 |[],_,_,_,_,_,h=>by simp[O8]at h|_::_,[],_,_,_,_,h=>by simp[O8]at h|_::_,_::_,[],_,_,_,h=>by simp[O8]at h|a::ι,b::H0,c::H1,j,X,Y,h=>by
  simp only[O8,List.mem_cons,Prod.mk.injEq]at h;rcases h with⟨rfl,_⟩|h;·simp
  ·exact List.mem_cons_of_mem _ (zPW ι H0 H1 j X Y h)
theorem zFR{r:Nat->Nat}{f:Nat->Option Nat}:∀(ι:List Nat)(H0 H1:List yL),ι.length=H0.length->H0.length<=H1.length->ι.Nodup->∀(i j:Nat)(Y:yL),ι[i]?=some j->H1[i]?=some Y->look ((O8 r f ι H0 H1).map λp=>(p.1,p.2.2)) j=some (Y.ren r f)|[],_,_,_,_,_,i,j,Y,h,_=>by simp at h|_::_,[],_,h,_,_,_,_,_,_,_=>by simp at h|_::_,_::_,[],_,h,_,_,_,_,_,_=>by simp at h|a::ι,b::H0,c::H1,h1,h2,hn,i,j,Y,h3,h5=>by rw[List.nodup_cons]at hn;simp only[O8,List.map_cons,look];cases i with|zero=>simp at h3 h5;subst h3 h5;simp|succ i=>
 simp at h3 h5;have hne:j≠a:=by rintro rfl;exact hn.1 (List.mem_of_getElem? h3)
 rw[oZ hne];exact zFR ι H0 H1 (by simpa using h1) (by simpa using h2) hn.2 i j Y h3 h5
theorem zCt{r:Nat->Nat}{f:Nat->Option Nat}(ι:List Nat)(H0 H1:List yL){j:Nat}(hj:j∉ι):look ((O8 r f ι H0 H1).map λp=>(p.1,p.2.2)) j=none:=by refine dY _ _ λX hX=>?_;obtain⟨q,hq,he⟩:=List.mem_map.1 hX;simp only[Prod.mk.injEq]at he;exact hj (he.1▸zPW ι H0 H1 q.1 q.2.1 q.2.2 hq)
theorem j7{r:Nat->Nat}{f:Nat->Option Nat}:∀(H1:List yL)(nx j:Nat),look (als r f nx H1) j=if nx<=j then(H1[j-nx]?).map λY=>Y.ren r f else none
 |[],nx,j=>by simp[als,look]|Y::H1,nx,j=>by
  simp only[als,look];by_cases e:j=nx;·subst e;simp
  ·rw[oZ e];simp only[cond_false];rw[j7 H1 (nx+1) j];by_cases h:nx+1<=j;·rw[if_pos h,if_pos (by omega),show j-nx=(j-(nx+1))+1 by omega];simp
   ·rw[if_neg h,if_neg (by omega)]
theorem zLp{r:Nat->Nat}{f:Nat->Option Nat}:∀(H1:List yL)(nx j:Nat)(X:yL),(j,X)∈als r f nx H1->nx<=j/\j<nx+H1.length
 |[],_,_,_,h=>by simp[als]at h|Y::H1,nx,j,X,h=>by
  simp only[als,List.mem_cons,Prod.mk.injEq]at h;rcases h with⟨rfl,_⟩|h;·simp
  ·have:=zLp H1 (nx+1) j X h;simp only[List.length_cons];omega
theorem zLo{r:Nat->Nat}{f:Nat->Option Nat}:∀(H1:List yL)(nx j:Nat),nx<=j->j<nx+H1.length->∃X,(j,X)∈als r f nx H1
 |[],nx,j,h1,h2=>by simp at h2;omega|Y::H1,nx,j,h1,h2=>by
  simp only[List.length_cons]at h2;by_cases e:j=nx;·subst e;exact⟨_,List.mem_cons_self ..⟩
  ·obtain⟨X,hX⟩:=zLo H1 (nx+1) j (by omega) (by omega);exact⟨X,List.mem_cons_of_mem _ hX⟩
theorem yL.ren_void{r:Nat->Nat}{f:Nat->Option Nat}{X:yL}(h:(X.ren r f).void):X.void:=by cases X with|cells cs=>exact h.elim|obj o=>exact h.elim|row cs=>exact h|dead=>trivial
theorem uS.uni{P:Program}{f:FuncId}{H0:List yL}{args:List AV}{res:AV}{H1:List yL}{nst:Nat}(h:uS P f H0 args res H1 nst)(hargs:AV.argL (λi=>i<H0.length) args)(hH0:∀X∈H0,X.arg (λi=>i<H0.length))(hres:res.fine (λi=>i<H1.length))(hH1:∀X∈H1,X.fine (λi=>i<H1.length))(ι:List Nat)(hι:ι.length=H0.length)(hle:H0.length<=H1.length)(hn:ι.Nodup)(nx ns:Nat):zNu P f (AV.renL (rV ι nx) jE args) (tO ι nx ns H0 H1 nst res):=by
 intro G σ w cargs hR hv hc;have hin:∀i,i<H0.length->∃j,ι[i]?=some j/\rV ι nx i=j:=by
  intro i hi;have hi':i<ι.length:=by omega
  exact⟨ι[i],List.getElem?_eq_getElem hi',by simp[rV,List.getElem?_eq_getElem hi']⟩
 have hblk:∀(i:Nat)(X:yL)(j:Nat),H0[i]?=some X->ι[i]?=some j->σ.H j=some (X.ren (rV ι nx) jE):=by
  intro i X j hX hj;have hlt:i<H1.length:=by have:=(List.getElem?_eq_some_iff.1 hX).1;omega
  exact hc.wr j _ _ (zLq ι H0 H1 hι hle i j X _ hj hX (List.getElem?_eq_getElem hlt))
 have hnew:∀j,nx<=j->j<nx+(H1.length-H0.length)->σ.H j=none:=by intro j h1 h2;obtain⟨X,hX⟩:=zLo (r:=rV ι nx) (f:=cst ns nst) (H1.drop ι.length) nx j h1 (by rw[List.length_drop,hι];exact h2);exact hc.al j X hX
 have notdead:∀{i j:Nat},ι[i]?=some j->σ.H j≠some .dead:=by
  intro i j hj hd;have hi:i<H0.length:=by have:=(List.getElem?_eq_some_iff.1 hj).1;omega
  have h1:=hblk i _ j (List.getElem?_eq_getElem hi) hj;rw[hd]at h1;have h2:=hH0 _ (List.getElem_mem hi);cases hX:H0[i]with|dead=>rw[hX]at h2;exact h2|cells cs=>rw[hX]at h1;cases h1|obj o=>rw[hX]at h1;cases h1|row cs=>rw[hX]at h1;cases h1
 have alive:∀{i i' j j' b:Nat},ι[i]?=some j->ι[i']?=some j'->G.ρ j=some b->G.ρ j'=some b->j=j':=by
  intro i i' j j' b hj hj' e e';rcases hR.inj j j' b e e' with q|q|q;·exact q
  ·exact(notdead hj q).elim
  ·exact(notdead hj' q).elim
 let F0:Nat->Prop:=λb=>b<w.heap.size/\∀i∈ι,G.ρ i≠some b;let G0:Gh:=⟨λi=>(ι[i]?).bind G.ρ,λ_=>none,G.L,w,F0,λi=>∃j:Nat,ι[i]?=some j/\G.N j⟩;have hN0:∀(i j:Nat),ι[i]?=some j->(G0.N i↔G.N j):=λi j e=>⟨λ⟨j',e',h⟩=>by rw[e]at e';cases e';exact h,λh=>⟨j,e,h⟩⟩;have arg0:∀(i j:Nat),ι[i]?=some j->(∃b,G.ρ j=some b)\/(G.ρ j=none/\G.N j):=by
  intro i j hj;have hi:i<H0.length:=by have:=(List.getElem?_eq_some_iff.1 hj).1;omega
  have hX:=hblk i _ j (List.getElem?_eq_getElem hi) hj;cases hb:G.ρ j with|some b=>exact .inl ⟨b,rfl⟩|none=>
   rcases(hR.dom j).1 hb with e|e;·exact .inr ⟨rfl,e⟩
   ·rw[hX]at e;cases e
 have hρ0:∀i j,ι[i]?=some j->G0.ρ i=G.ρ j:=by intro i j e;show(ι[i]?).bind G.ρ=_;rw[e];rfl
 have hρ0':∀i b,G0.ρ i=some b->∃j,ι[i]?=some j/\G.ρ j=some b:=by intro i b e;have e':(ι[i]?).bind G.ρ=some b:=e;cases hj:ι[i]? with|none=>rw[hj]at e';cases e'|some j=>rw[hj]at e';exact⟨j,rfl,e'⟩
 have hB:zCu H0.length G0:=⟨λi hi=>by replace hi:H0.length<=i:=hi;exact⟨by show(ι[i]?).bind G.ρ=none;rw[List.getElem?_eq_none (by omega)];rfl,λ⟨j,e,_⟩=>by rw[List.getElem?_eq_none (by omega)]at e;cases e⟩,λ_=>rfl,λb o e=>⟨hR.L_lt e,λi _=>(hR.live b o e).2 i⟩,trivial⟩;have hR0:yM G0 (xD (uI 0) (A3 H0)) w:=by
  refine⟨λi=>?_,⟨H0.length,λi hi=>?_⟩,λi i' b e1 e2=>?_,λi b X e1 e2=>?_,λb o e=>?_,λ_ _=>rfl,λk hk=>?_,λk k' b f t f' t' hk=>?_,vY.refl _ _,λk hk=>hk.1⟩
  ·rw[zPV];cases hX:H0[i]? with|none=>have q:=hB.ρ i (List.getElem?_eq_none_iff.1 hX);exact⟨λ_=>.inr rfl,λ_=>q,λe=>absurd e q.2⟩|some X=>obtain⟨j,hj,_⟩:=hin i (List.getElem?_eq_some_iff.1 hX).1;have q:=hR.dom j;rw[hblk i X j hX hj]at q;rw[hρ0 i j hj,propext (hN0 i j hj)];exact⟨λe=>(q.1 e).imp id λe=>(by cases e),λe=>(by cases e),λe=>⟨(q.2.2 e).1,λY hY=>by cases hY;exact yL.ren_void ((q.2.2 e).2 _ rfl)⟩⟩
  ·rw[zPV];exact List.getElem?_eq_none hi
  ·obtain⟨j,hj,e3⟩:=hρ0' i b e1;obtain⟨j',hj',e4⟩:=hρ0' i' b e2;left;have:=alive hj hj' e3 e4;subst this;exact(List.getElem?_inj (List.getElem?_eq_some_iff.1 hj).1 hn).1 (hj.trans hj'.symm)
  ·rw[zPV]at e2;obtain⟨j,hj,e3⟩:=hρ0' i b e1;obtain⟨q1,q2⟩:=hR.blk j b _ e3 (hblk i X j e2 hj);refine⟨λhF=>hF.2 j (List.mem_of_getElem? hj) e3,vZ.unren (G:=G) (G':=G0) (r:=rV ι nx) (f:=jE) (λi hi=>?_) (λ_ _ e=>e) (hH0 X (List.mem_of_getElem? e2)) q2⟩;obtain⟨j',hj',e5⟩:=hin i hi;exact⟨by rw[hρ0 i j' hj',e5],λq=>(hN0 i j' hj').2 (by rw[<-e5];exact q)⟩
  ·obtain⟨q1,q2⟩:=hR.live b o e;refine⟨q1,λi hi=>?_⟩;obtain⟨j,_,e3⟩:=hρ0' i b hi;exact q2 j e3
  ·simp[rF,A3]at hk
  ·simp[rF,A3]at hk
 have hv0:VL G0 w args cargs.toList:=VL.unren (G:=G) (G':=G0) (r:=rV ι nx) (f:=jE) (λi hi=>by obtain⟨j,hj,e⟩:=hin i hi;exact⟨by rw[hρ0 i j hj,e],λq=>(hN0 i j hj).2 (by rw[<-e];exact q)⟩) (λ_ _ e=>e) _ _ hargs hv;refine(h G0 w cargs hB hR0 hv0).mono λe w' he=>?_;obtain⟨u,G₁,s₁,rfl,hE,hR₁,hu,hH1',hst⟩:=he;have hkeep:vY F0 w w':=by have:=hR₁.below;rw[hE.w0,hE.F]at this;exact this
 let m:=H1.length-H0.length;let G':Gh:=⟨λi=>if nx<=i/\i<nx+m then G₁.ρ (H0.length+(i-nx))else G.ρ i,λk=>if k<σ.ns then G.τ k else if k<σ.ns+nst then G₁.τ (k-σ.ns)else none,G₁.L,G.w0,G.F,λi=>if nx<=i/\i<nx+m then G₁.N (H0.length+(i-nx))else G.N i⟩;have ρnew:∀i,nx<=i->i<nx+m->G'.ρ i=G₁.ρ (H0.length+(i-nx)):=λi a b=>if_pos ⟨a,b⟩;have ρold:∀i,σ.H i≠none->G'.ρ i=G.ρ i:=by intro i hi;refine if_neg λe=>hi (hnew i e.1 e.2)
 have ρarg:∀i j,ι[i]?=some j->G₁.ρ i=G.ρ j/\G'.ρ j=G.ρ j:=by
  intro i j hj;have hi:i<H0.length:=by have:=(List.getElem?_eq_some_iff.1 hj).1;omega
  have hX:=hblk i _ j (List.getElem?_eq_getElem hi) hj;refine⟨?_,ρold j (by rw[hX];simp)⟩;rcases arg0 i j hj with⟨b,hb⟩|⟨e,hN⟩;·rw[hb];exact hE.ρ i b (by rw[hρ0 i j hj];exact hb)
  ·rw[e];exact((hR₁.dom i).2.2 (hE.N i ((hN0 i j hj).2 hN))).1
 have Nnew:∀i,nx<=i->i<nx+m->(G'.N i↔G₁.N (H0.length+(i-nx))):=λi a b=>by show(if _ then _ else _)↔_;rw[if_pos ⟨a,b⟩]
 have Nold:∀i,¬(nx<=i/\i<nx+m)->(G'.N i↔G.N i):=λi a=>by show(if _ then _ else _)↔_;rw[if_neg a]
 have Narg:∀(i j:Nat),ι[i]?=some j->(G₁.N i↔G.N j)/\(G'.N j↔G.N j):=by
  intro i j hj;have hi:i<H0.length:=by have:=(List.getElem?_eq_some_iff.1 hj).1;omega
  have hX:=hblk i _ j (List.getElem?_eq_getElem hi) hj;refine⟨⟨λhN=>?_,λhN=>hE.N i ((hN0 i j hj).2 hN)⟩,Nold j λe=>by rw[hnew j e.1 e.2]at hX;cases hX⟩;rcases arg0 i j hj with⟨b,hb⟩|⟨_,h⟩
  ·have:=((hR₁.dom i).2.2 hN).1;rw[(ρarg i j hj).1,hb]at this;cases this
  ·exact h
 have pre:∀i b,G'.ρ i=some b->(∃i₁,G₁.ρ i₁=some b/\rV ι nx i₁=i/\i₁<H1.length/\(ι[i₁]?=some i\/(nx<=i/\i<nx+m/\i₁=H0.length+(i-nx))))\/(G.ρ i=some b/\(F0 b\/σ.H i=some .dead)/\i∉ι/\¬(nx<=i/\i<nx+m)):=by
  intro i b e;by_cases hi:nx<=i/\i<nx+m
  ·rw[ρnew i hi.1 hi.2]at e;refine .inl ⟨H0.length+(i-nx),e,?_,by omega,.inr ⟨hi.1,hi.2,rfl⟩⟩;unfold rV;rw[List.getElem?_eq_none (by omega)];simp only;omega
  ·have e':G.ρ i=some b:=by have:G'.ρ i=G.ρ i:=if_neg hi;rw[<-this];exact e
   by_cases hm:i∈ι
   ·obtain⟨t,ht,rfl⟩:=List.getElem_of_mem hm;have hj:ι[t]?=some ι[t]:=List.getElem?_eq_getElem ht;refine .inl ⟨t,by rw[(ρarg t _ hj).1];exact e',by simp[rV,hj],by omega,.inl hj⟩
   ·refine .inr ⟨e',?_,hm,hi⟩;by_cases hd:σ.H i=some .dead;·exact .inr hd
    ·refine .inl ⟨hR.ρ_lt e',λj hj e2=>?_⟩;obtain⟨t,ht,rfl⟩:=List.getElem_of_mem hj;rcases hR.inj _ i b e2 e' with q|q|q;·exact hm (q▸hj)
     ·exact notdead (List.getElem?_eq_getElem ht) q
     ·exact hd q
 have notF0:∀{b:Nat},¬F0 b->b<w.heap.size->∃t:Nat,G₁.ρ t=some b/\G0.ρ t=some b:=by
  intro b h1 h2;obtain⟨j,hj,e⟩:∃j,j∈ι/\G.ρ j=some b:=by refine Classical.byContradiction λhn'=>h1 ⟨h2,λj hj e=>hn' ⟨j,hj,e⟩⟩
  obtain⟨t,ht,rfl⟩:=List.getElem_of_mem hj;exact⟨t,by rw[(ρarg t _ (List.getElem?_eq_getElem ht)).1];exact e,by rw[hρ0 t _ (List.getElem?_eq_getElem ht)];exact e⟩
 have hF:∀b,¬F0 b->¬G.F b:=by intro b hb hG;apply hb;refine⟨hR.base b hG,λi _ e=>?_⟩;obtain⟨X,hX⟩:=hR.has e;exact(hR.blk i b X e hX).1 hG
 have hLsub:∀b o,G.L b o->G₁.L b o:=hE.L;have hnewL:∀b o,G₁.L b o->G.L b o\/¬F0 b:=hE.newL;have hcell:∀b o,G.L b o->w'.cell? ⟨b,o,none⟩=w.cell? ⟨b,o,none⟩:=hE.cell;have hExt:vL G w G' w':=by
  refine⟨λi b e=>?_,λk q e=>?_,hLsub,hcell,rfl,rfl,λb o e=>(hnewL b o e).imp id (hF b),λi b k e r=>?_,λi e=>(Nold i λq=>((hR.dom i).2.1 (hnew i q.1 q.2)).2 e).2 e⟩;rotate_left 2
  ·by_cases hb:F0 b;·exact r.same (hkeep.block b hb)
   ·obtain⟨t,_,h2⟩:=notF0 hb r.lt;exact hE.room t b k h2 r
  ·obtain⟨X,hX⟩:=hR.has e;rw[ρold i (by rw[hX];simp)];exact e
  ·have:k<σ.ns:=by
    rcases Nat.lt_or_ge k σ.ns with e1|e1;·exact e1
    ·rw[hR.τns k e1]at e;cases e
   show(if k<σ.ns then _ else _)=_;rw[if_pos this];exact e
 have hns:nst≠0->ns=σ.ns:=λe=>hc.ns (.inr (.inl e));have hren:Ren G₁ G' (rV ι nx) (cst ns nst) (λi=>i<H1.length):=by
  refine⟨λb hb=>hF b (by rw[hE.F]at hb;exact hb),λi b hi e=>?_,λk k' q hk hq=>?_,λ_ _ e=>e,λi hi e=>?_⟩;rotate_left 2
  ·by_cases hi':i<H0.length;·obtain⟨j,hj,e1⟩:=hin i hi';rw[e1];exact(Narg i j hj).2.2 ((Narg i j hj).1.1 e)
   ·have e1:rV ι nx i=nx+(i-ι.length):=by unfold rV;rw[List.getElem?_eq_none (by omega)]
    rw[e1];refine(Nnew _ (by omega) (by omega)).2 ?_;rw[show H0.length+(nx+(i-ι.length)-nx)=i by omega];exact e
  ·by_cases hi':i<H0.length;·obtain⟨j,hj,e1⟩:=hin i hi';rw[e1,(ρarg i j hj).2,<-(ρarg i j hj).1];exact e
   ·have e1:rV ι nx i=nx+(i-ι.length):=by unfold rV;rw[List.getElem?_eq_none (by omega)]
    rw[e1,ρnew _ (by omega) (by omega)];rw[show H0.length+(nx+(i-ι.length)-nx)=i by omega];exact e
  ·unfold cst at hk;cases hb:Nat.blt k nst with|false=>rw[hb]at hk;cases hk|true=>
    rw[hb]at hk;simp only[cond_true,Option.some.injEq]at hk;subst hk;have hlt:k<nst:=by simpa using hb
    have:=hns (by omega);subst this;show(if σ.ns+k<σ.ns then _ else if σ.ns+k<σ.ns+nst then G₁.τ (σ.ns+k-σ.ns)else none)=_;rw[if_neg (by omega),if_pos (by omega),show σ.ns+k-σ.ns=k by omega];exact hq
 have happ:∀i,((tO ι nx ns H0 H1 nst res).app σ).H i=match look (als (rV ι nx) (cst ns nst) nx (H1.drop ι.length)) i with|some X=>some X|none=>(match look ((O8 (rV ι nx) (cst ns nst) ι H0 H1).map λp=>(p.1,p.2.2)) i with|some X=>some X|none=>σ.H i):=by intro i;show fO (fO σ.H ((O8 (rV ι nx) (cst ns nst) ι H0 H1).map λp=>(p.1,p.2.2))) (als (rV ι nx) (cst ns nst) nx (H1.drop ι.length)) i=_;rw[H3,H3]<;>rfl
 have happNew:∀i,nx<=i->i<nx+m->∃Y:yL,H1[H0.length+(i-nx)]?=some Y/\((tO ι nx ns H0 H1 nst res).app σ).H i=some (Y.ren (rV ι nx) (cst ns nst)):=by
  intro i h1 h2;have hlt:H0.length+(i-nx)<H1.length:=by omega
  refine⟨H1[H0.length+(i-nx)],List.getElem?_eq_getElem hlt,?_⟩;rw[happ,j7,if_pos h1,List.getElem?_drop,hι,List.getElem?_eq_getElem hlt];rfl
 have hnotnew:∀i,¬(nx<=i/\i<nx+m)->look (als (rV ι nx) (cst ns nst) nx (H1.drop ι.length)) i=none:=by
  intro i hi;rw[j7];split;·rw[List.getElem?_eq_none (by rw[List.length_drop];omega)];rfl
  ·rfl
 have happArg:∀(t j:Nat),ι[t]?=some j->∃Y:yL,H1[t]?=some Y/\((tO ι nx ns H0 H1 nst res).app σ).H j=some (Y.ren (rV ι nx) (cst ns nst)):=by
  intro t j hj;have ht:t<H0.length:=by have:=(List.getElem?_eq_some_iff.1 hj).1;omega
  have hlt:t<H1.length:=by omega
  refine⟨H1[t],List.getElem?_eq_getElem hlt,?_⟩;have hX:=hblk t _ j (List.getElem?_eq_getElem ht) hj;rw[happ,hnotnew j (λe=>by rw[hnew j e.1 e.2]at hX;cases hX),zFR ι H0 H1 hι hle hn t j _ hj (List.getElem?_eq_getElem hlt)]
 have happOld:∀i,i∉ι->¬(nx<=i/\i<nx+m)->((tO ι nx ns H0 H1 nst res).app σ).H i=σ.H i:=by intro i h1 h2;rw[happ,hnotnew i h2,zCt ι H0 H1 h1]
 have hown:∀k,((tO ι nx ns H0 H1 nst res).app σ).own k=true->(k<σ.ns/\σ.own k=true/\G'.τ k=G.τ k)\/(σ.ns<=k/\k<σ.ns+nst/\G'.τ k=G₁.τ (k-σ.ns)/\(xD (uI 0) s₁).own (k-σ.ns)=true):=by
  intro k hk;have hk':(if σ.ns<=k/\k<σ.ns+nst then true else if k∈([]:List Nat)then false else σ.own k)=true:=hk;by_cases h1:σ.ns<=k/\k<σ.ns+nst
  ·refine .inr ⟨h1.1,h1.2,?_,?_⟩
   ·show(if k<σ.ns then _ else _)=_;rw[if_neg (by omega),if_pos h1.2]
   ·rw[rF];exact hst _ (by omega)
  ·rw[if_neg h1,if_neg (by simp)]at hk';have:=hR.own_lt hk';refine .inl ⟨this,hk',?_⟩;show(if k<σ.ns then _ else _)=_;rw[if_pos this]
 have hpreN:∀b,(∀i,G₁.ρ i≠some b)->¬F0 b->∀i,G'.ρ i≠some b:=by
  intro b h1 h2 i e;rcases pre i b e with⟨i₁,e1,_⟩|⟨e0,e2,_⟩;·exact h1 i₁ e1
  ·obtain⟨t,q1,_⟩:=notF0 h2 (hR.ρ_lt e0);exact h1 t q1
 refine⟨u,G',rfl,hExt,⟨?_,?_,?_,?_,?_,?_,?_,?_,?_,?_⟩,V.ren hren res u hres hu⟩
 ·intro i;by_cases h1:nx<=i/\i<nx+m
  ·obtain⟨Y,hY,hY'⟩:=happNew i h1.1 h1.2;have q:=hR₁.dom (H0.length+(i-nx));rw[wB,hH1' _ _ hY]at q;rw[hY',ρnew i h1.1 h1.2,propext (Nnew i h1.1 h1.2)];exact q.map λX=>yL.void_ren
  ·by_cases h2:i∈ι
   ·obtain⟨t,ht,rfl⟩:=List.getElem_of_mem h2;have hj:ι[t]?=some ι[t]:=List.getElem?_eq_getElem ht;obtain⟨Y,hY,hY'⟩:=happArg t _ hj;have q:=hR₁.dom t;rw[wB,hH1' _ _ hY]at q;rw[hY',(ρarg t _ hj).2,<-(ρarg t _ hj).1,propext (Narg t _ hj).2,<-propext (Narg t _ hj).1];exact q.map λX=>yL.void_ren
   ·rw[happOld i h2 h1,propext (Nold i h1)];rw[show G'.ρ i=G.ρ i from if_neg h1];exact hR.dom i
 ·obtain⟨N,hN⟩:=hR.fin;refine⟨N+nx+m+ι.foldr (λi s=>i+1+s) 0,λi hi=>?_⟩;have big:∀(l:List Nat)i,i∈l->i<l.foldr (λi s=>i+1+s) 0:=by intro l;induction l with|nil=>intro i hi;cases hi|cons x l ih=>
    intro i hi;simp only[List.foldr_cons];rcases List.mem_cons.1 hi with rfl|hi;·omega
    ·have:=ih i hi;omega
  rw[happOld i (λhm=>by have:=big _ i hm;omega) (by omega)];exact hN i (by omega)
 ·intro i i' b e1 e2;have hdead:∀{i a:Nat},(ι[a]?=some i\/(nx<=i/\i<nx+m/\a=H0.length+(i-nx)))->(xD (uI 0) s₁).H a=some .dead->((tO ι nx ns H0 H1 nst res).app σ).H i=some .dead:=by
   intro i a hc hd;have:∃Y:yL,H1[a]?=some Y/\((tO ι nx ns H0 H1 nst res).app σ).H i=some (Y.ren (rV ι nx) (cst ns nst)):=by
    rcases hc with hc|⟨h1,h2,rfl⟩;·exact happArg a i hc
    ·exact happNew i h1 h2
   obtain⟨Y,h1,h2⟩:=this;rw[wB,hH1' _ _ h1]at hd;cases hd;rw[h2];rfl
  rcases pre i b e1 with⟨a,q1,q2,q3,q4⟩|⟨q1,q2,q3,q4⟩<;>rcases pre i' b e2 with⟨a',p1,p2,p3,p4⟩|⟨p1,p2,p3,p4⟩
  ·rcases hR₁.inj a a' b q1 p1 with this|this|this;·left;subst this;rw[<-q2,<-p2]
   ·exact .inr (.inl (hdead q4 this))
   ·exact .inr (.inr (hdead p4 this))
  ·rcases p2 with p2|p2
   ·exfalso;obtain⟨X,hX⟩:=hR₁.has q1;have:=(hR₁.blk a b X q1 hX).1;rw[hE.F]at this;exact this p2
   ·exact .inr (.inr (by rw[happOld i' p3 p4];exact p2))
  ·rcases q2 with q2|q2;·exfalso;obtain⟨X,hX⟩:=hR₁.has p1;have:=(hR₁.blk a' b X p1 hX).1;rw[hE.F]at this;exact this q2
   ·exact .inr (.inl (by rw[happOld i q3 q4];exact q2))
  ·rw[happOld i q3 q4,happOld i' p3 p4];exact hR.inj i i' b q1 p1
 ·intro i b X hb hX;rcases pre i b hb with⟨i₁,e1,_,e3,hcase⟩|⟨e1,e2,e3,e4⟩
  ·have hX':∃Y:yL,H1[i₁]?=some Y/\X=Y.ren (rV ι nx) (cst ns nst):=by
    rcases hcase with h2|⟨h2,h3,rfl⟩
    ·obtain⟨Y,hY,hY'⟩:=happArg i₁ _ h2;rw[hX]at hY';cases hY';exact⟨Y,hY,rfl⟩
    ·obtain⟨Y,hY,hY'⟩:=happNew i h2 h3;rw[hX]at hY';cases hY';exact⟨Y,hY,rfl⟩
   obtain⟨Y,hY,rfl⟩:=hX';obtain⟨q1,q2⟩:=hR₁.blk i₁ b Y e1 (by rw[wB];exact hH1' _ _ hY);rw[hE.F]at q1;exact⟨hF b q1,q2.ren hren (hH1 Y (List.mem_of_getElem? hY))⟩
  ·rw[happOld i e3 e4]at hX;obtain⟨q1,q2⟩:=hR.blk i b X e1 hX;rcases e2 with e2|e2;·exact⟨q1,q2.mono hExt (hkeep.block b e2)⟩
   ·rw[e2]at hX;cases hX;exact⟨q1,Nat.lt_of_lt_of_le q2 hkeep.size⟩
 ·intro b o hL;obtain⟨q1,q2⟩:=hR₁.live b o hL;refine⟨q1,λi e=>?_⟩;rcases pre i b e with⟨i₁,e1,_⟩|⟨e1,e2,_⟩;·exact q2 i₁ e1
  ·rcases hnewL b o hL with q|q;·exact(hR.live b o q).2 i e1
   ·obtain⟨t,q3,_⟩:=notF0 q (hR.ρ_lt e1);exact q2 t q3
 ·intro k hk;have hk':σ.ns+nst<=k:=hk;show(if k<σ.ns then _ else if k<σ.ns+nst then _ else none)=none;rw[if_neg (by omega),if_neg (by omega)]
 ·intro k hk;rcases hown k hk with⟨_,h2,h3⟩|⟨_,_,h3,h4⟩
  ·obtain⟨b,f',t,q1,q2|⟨q2,q3,q4,vs,T,q5,q6⟩⟩:=hR.own k h2;·exact⟨b,f',t,h3.trans q1,.inl q2⟩
   have hb:b<w.heap.size:=(Array.getElem?_eq_some_iff.1 q5).1;have hFb:F0 b:=⟨hb,λi _=>q3 i⟩;refine⟨b,f',t,h3.trans q1,.inr ⟨q2,λi e=>?_,λo ho ht hL=>?_,vs,T,(hkeep.block b hFb).trans q5,q6⟩⟩
   ·rcases pre i b e with⟨i₁,e1,_⟩|⟨e1,_⟩
    ·obtain⟨X,hX⟩:=hR₁.has e1;have:=(hR₁.blk i₁ b X e1 hX).1;rw[hE.F]at this;exact this hFb
    ·exact q3 i e1
   ·rcases hnewL b o hL with q|q;·exact q4 o ho ht q
    ·exact q hFb
  ·obtain⟨b,f',t,q1,q2|⟨q2,q3,q4,q5⟩⟩:=hR₁.own _ h4;·exact⟨b,f',t,h3.trans q1,.inl q2⟩
   rw[hE.F]at q2;exact⟨b,f',t,h3.trans q1,.inr ⟨hF b q2,hpreN b q3 q2,q4,q5⟩⟩
 ·intro k k' b f1 t1 f2 t2 hk hk' ht ht' l1 l2;rcases hown k hk with⟨a1,a2,a3⟩|⟨a1,a2,a3,a4⟩<;>rcases hown k' hk' with⟨c1,c2,c3⟩|⟨c1,c2,c3,c4⟩;·rw[a3]at ht;rw[c3]at ht';exact hR.ownd k k' b f1 t1 f2 t2 a2 c2 ht ht' l1 l2
  ·exfalso;rw[a3]at ht;obtain⟨b',f',t,q1,q2|⟨q2,q3,q4,vs,T,q5,q6⟩⟩:=hR.own k a2;·rw[ht]at q1;cases q1;omega
   rw[ht]at q1;cases q1;have hb:b<w.heap.size:=(Array.getElem?_eq_some_iff.1 q5).1;obtain⟨b',f',t,p1,p2|⟨p2,_⟩⟩:=hR₁.own _ c4;·rw[<-c3,ht']at p1;cases p1;omega
   rw[<-c3,ht']at p1;cases p1;rw[hE.F]at p2;exact p2 ⟨hb,λi _=>q3 i⟩
  ·exfalso;rw[c3]at ht';obtain⟨b',f',t,q1,q2|⟨q2,q3,q4,vs,T,q5,q6⟩⟩:=hR.own k' c2;·rw[ht']at q1;cases q1;omega
   rw[ht']at q1;cases q1;have hb:b<w.heap.size:=(Array.getElem?_eq_some_iff.1 q5).1;obtain⟨b',f',t,p1,p2|⟨p2,_⟩⟩:=hR₁.own _ a4;·rw[<-a3,ht]at p1;cases p1;omega
   rw[<-a3,ht]at p1;cases p1;rw[hE.F]at p2;exact p2 ⟨hb,λi _=>q3 i⟩
  ·rw[a3]at ht;rw[c3]at ht';have:=hR₁.ownd _ _ b f1 t1 f2 t2 a4 c4 ht ht' l1 l2;omega
 ·have hb:=hR.below;refine hb.trans ⟨hkeep.os,hkeep.tape,hkeep.output,hkeep.size,λk hk=>hkeep.block k ⟨hR.base k hk,λi _ e=>?_⟩⟩;obtain⟨X,hX⟩:=hR.has e;exact(hR.blk i k X e hX).1 hk
 ·intro k hk;exact Nat.lt_of_lt_of_le (hR.base k hk) hkeep.size
mutual def AV.frz:AV->AV|.val v=>.val v|.agg cs=>.agg (AV.frzL cs)|.tup cs=>.tup (AV.frzL cs)|.sl es n _=>.sl es n .no|.ip es=>.ip es|.mp i off=>.mp i off|.ms i off n c sz=>.ms i off n c sz|.obj i=>.obj i|.clo g fs cs=>.clo g (AV.frzL fs) (AV.frzL cs)def AV.frzL:List AV->List AV|[]=>[]|a::l=>AV.frz a::AV.frzL l end
theorem eC:∀a b:List AV,AV.frzL (a++b)=AV.frzL a++AV.frzL b|[],_=>rfl|x::a,b=>by simp only[List.cons_append,AV.frzL,eC a b]
theorem V7:∀a:List AV,(AV.frzL a).length=a.length|[]=>rfl|_::a=>by simp[AV.frzL,V7 a]
theorem zFS{α:Type}(f:α->AV):∀l:List α,AV.frzL (l.map f)=l.map λx=>(f x).frz|[]=>rfl|x::l=>by simp only[List.map_cons,AV.frzL,zFS f l]
mutual theorem V.frz{G:Gh}{w:World}:∀(a:AV)(u:Value),V G w a u->V G w a.frz u
 |.val v,u,hv=>hv|.agg cs,u,hv=>by simp only[V,AV.frz]at hv⊢;obtain⟨vs,rfl,hl⟩:=hv;exact⟨vs,rfl,VL.frz cs vs hl⟩|.tup cs,u,hv=>by simp only[V,AV.frz]at hv⊢;obtain⟨vs,rfl,hl⟩:=hv;exact⟨vs,rfl,VL.frz cs vs hl⟩|.sl es n o,u,hv=>by
  simp only[V,AV.frz]at hv⊢;obtain⟨cap,hc,hh⟩:=hv;refine⟨cap,hc,?_⟩;rcases hh with⟨rfl,h2,h3,h4,h5⟩|⟨b,off,hu,hcells,ho⟩;·exact .inl ⟨rfl,h2,h3,h4,trivial⟩
  ·exact .inr ⟨b,off,hu,hcells,trivial⟩|.ip es,u,hv=>hv|.mp i off,u,hv=>hv|.ms i off n c sz,u,hv=>hv|.obj i,u,hv=>hv|.clo g fs cs,u,hv=>by simp only[V,AV.frz]at hv⊢;obtain⟨l,r',hu,h1,h2⟩:=hv;exact⟨l,r',hu,VL.frz fs l h1,VL.frz cs r' h2⟩theorem VL.frz{G:Gh}{w:World}:∀(as0:List AV)(us:List Value),VL G w as0 us->VL G w (AV.frzL as0) us|[],[],_=>by simp only[AV.frzL,VL]|a::as0,u::us,hv=>by simp only[VL,AV.frzL]at hv⊢;exact⟨V.frz a u hv.1,VL.frz as0 us hv.2⟩|[],_::_,hv=>by simp only[VL]at hv|_::_,[],hv=>by simp only[VL]at hv end
theorem VC.frz{G:Gh}{w:World}:∀(as0:List AV)(b off:Nat),VC G w as0 b off->VC G w (AV.frzL as0) b off|[],_,_,_=>by simp only[AV.frzL,VC]|a::as0,b,off,h=>by simp only[VC,AV.frzL]at h⊢;obtain⟨h1,⟨v,h2,h3⟩,h4⟩:=h;exact⟨h1,⟨v,h2,V.frz a v h3⟩,VC.frz as0 b (off+1) h4⟩
def tidy(op:Op)(v:AV):AV:=match op,v with|.buildSlice _ _ _,.sl es n o=>.sl (AV.frzL es) n o|_,v=>v
theorem V.tidy{G:Gh}{w:World}{op:Op}{v:AV}{u:Value}(h:V G w v u):V G w (tidy op v) u:=by
 unfold Ab.tidy;split
 ·simp only[V]at h⊢;obtain⟨cap,hc,hh⟩:=h;refine⟨cap,hc,?_⟩;rcases hh with⟨rfl,h2,h3,h4,h5⟩|⟨b,off,hu,hcells,ho⟩;·exact .inl ⟨rfl,h2,h3,h4,h5⟩
  ·exact .inr ⟨b,off,hu,VC.frz _ _ _ hcells,by rw[V7];exact ho⟩
 ·exact h
inductive lI where|no|bit(b:Bool)|av(a:AV)|app(es:List AV)(n sz:Nat)(empty:Bool)|sl(es:List AV)(n:Nat)|fz(a:AV)|lk(a:AV)|mu(Y:yL)|mk(cs:List AV)(n:Nat)|mks(cs:List AV)(n:Nat)|mkc(cs:List AV)(n:Nat)|mkl(cs:List AV)(n:Nat)|cv(bs:ByteArray)|mz(cs:List AV)(n:Nat)|ld(a:AV)|cl|wt(cs:List AV)|same|inp(cs:List AV)|clr|zs|nx(v:AV)(Y:Option yL)|wk(a:AV)|call(ι:List Nat)(H1:List yL)(nst:Nat)(res:AV)(b:Option Bool)|callx(ι:List Nat)(H1:List yL)(nst:Nat)(res:AV)(b:Option Bool)|callk(kp:List (Nat×Nat))(ι:List Nat)(H1:List yL)(nst:Nat)(res:AV)
def zXH(ev:Operand->AV)(i:Nat)(X:yL)(v:AV):Option yL->LA|some Y=>{ev:=ev,wr:=[(i,X,Y)],v:=v}|none=>{ev:=ev,rd:=[(i,X)],v:=v}
def zLn(ev:Operand->AV)(ns:Nat)(own:List Nat)(o:Own)(es':List AV)(n' sz:Nat)(empty:Bool):Option LA:=bif empty then some {ev:=ev,v:=.sl es' n' o}else match o with|.full=>some {ev:=ev,ns:=ns,new:=1,v:=.sl es' n' (.st ns sz)}|.nl=>some {ev:=ev,ns:=ns,new:=1,v:=.sl es' n' (.st ns sz)}|.st k sz'=>bif own.any (Nat.beq k)&&Nat.beq sz' sz then some {ev:=ev,use:=[k],ns:=ns,new:=1,v:=.sl es' n' (.st ns sz)}else none|_=>none
structure CT(P:Program)(f:FuncId)(H0:List yL)(args:List AV)(res:AV)(H1:List yL)(nst:Nat):Prop where
 tri:uS P f H0 args res H1 nst
 args:AV.argL (λi=>i<H0.length) args
 H0:∀X∈H0,X.arg (λi=>i<H0.length)res:res.fine (λi=>i<H1.length)H1:∀X∈H1,X.fine (λi=>i<H1.length)
def Wk(a b:AV):Prop:=∀(G:Gh)(w:World)(u:Value),V G w a u->V G w b u
inductive Ob where|kp(H0 H1:List yL)(l:List (Nat×Nat))|call(f:FuncId)(H0:List yL)(args:List AV)(res:AV)(H1:List yL)(nst:Nat)|bit(b b':Bool)|av(x:Option AV)(a:AV)|app(t t2:TypeId)(es es2 es':List AV)(n n2 n' sz:Nat)(empty:Bool)|aps(t t2:TypeId)(es:List AV)(bs:ByteArray)(es':List AV)(n n' sz:Nat)(empty:Bool)|data(es:List AV)|cells(cs es:List AV)(len n:Nat)|fz(x:Option AV)(a:AV)|lk(t:TypeId)(X:yL)(key:AV)(ok:Bool)(a:AV)|mu(t:TypeId)(X:yL)(key val:AV)(Y:yL)|mk(x:Option (List AV×Nat))(cs:List AV)(n:Nat)|ld(x:Option AV)(a:AV)|wt(cs:List AV)(off:Nat)(v:AV)(sz:Nat)(cs':List AV)|same(t t2:TypeId)(n:Nat)|inp(x:Option (List AV))(cs:List AV)|clr(t:TypeId)(l off z:Nat)|ln(t:TypeId)(X:yL)(a:AV)|nx(X:yL)(v:AV)(Y:Option yL)|wk(a b:AV)|str(x:Option ByteArray)(bs:ByteArray)
def zJp(H0 H1:List yL):List (Nat×Nat)->Prop|[]=>True|p::l=>(∃a,pV (H0.getD p.1 .dead) p.2=some a/\pV (H1.getD p.1 .dead) p.2=some a/\∀r f g,a.ren r f=a.ren r g)/\zJp H0 H1 l
def Ob.ok(P:Program):Ob->Prop|.kp H0 H1 l=>zJp H0 H1 l|.call f H0 args res H1 nst=>CT P f H0 args res H1 nst|.bit b b'=>b=b'|.av x a=>x=some a|.app t t2 es es2 es' n n2 n' sz empty=>∀(ev:Operand->AV)(s:xB)(o o2:Own),mT P t t2 ev (.sl es n o) (.sl es2 n2 o2) s=zLn ev s.ns s.own o es' n' sz empty|.aps t t2 es bs es' n n' sz empty=>∀(ev:Operand->AV)(s:xB)(o:Own),lQ P t t2 ev (.sl es n o) bs s=zLn ev s.ns s.own o es' n' sz empty|.nx X v Y=>∀(ev:Operand->AV)(i:Nat)(s:xB),look s.H i=some X->zCd ev (.mp i 0) true s=some (zXH ev i X v Y)|.wk a b=>Wk a b|.str x bs=>x=some bs|.data es=>AV.DataL es|.cells cs es len n=>cs=es/\len=n|.fz x a=>∃a0,x=some a0/\a0.frz=a|.lk t X key ok a=>∀(ev:Operand->AV)(i:Nat)(s:xB),look s.H i=some X->kS P t ev (.obj i) key ok s=some {ev:=ev,rd:=[(i,X)],v:=a}|.mu t X key val Y=>∀(ev:Operand->AV)(i:Nat)(s:xB),look s.H i=some X->rU P t ev (.obj i) key val s=some {ev:=ev,v:=.val undef,wr:=[(i,X,Y)]}|.mk x cs n=>x=some (cs,n)|.ld x a=>x=some a|.ln t X a=>∃es c kt et,X=.obj (.map es c)/\P.underlying t=some (.map kt et)/\a=.val (goInt es.size)|.inp x cs=>x=some cs|.clr t l off z=>l<=off/\∃e ie zv,P.underlying t=some (.slice e)/\P.info? e=some ie/\ie.zero=some zv/\zv.cells.size=z/\zv.cells.toList.all Value.oneCell'=true|.same t t2 n=>t=t2/\n=0/\∃e ie,P.underlying t=some (.slice e)/\P.info? e=some ie|.wt cs off v sz cs'=>v.sound=true/\(rR v).length=sz/\off+sz<=cs.length/\splice cs off (rR v)=cs'
def Z3(P:Program)(t:TypeId):Nat:=match P.underlying t with
 |some (.slice e)=>match P.info? e with|some ie=>ie.size|none=>0
 |_=>0
def iW(P:Program)(t:TypeId)(l c:AV):Option (List AV×Nat):=match P.underlying t,l,c with
 |some (.slice e),.val (.int .i64 l),.val (.int .i64 c)=>match P.info? e with
  |some ie=>match ie.zero with
   |some z=>if l=c/\0<=l/\l*ie.bytes<=140737488355328/\l<=9223372036854775807/\z.cells.size=ie.size/\1<=ie.size then some ((List.range (l.toNat*ie.size)).map λj=>(ofV 8 (z.cells.getD (j%z.cells.size) undef)).frz,l.toNat)else none|none=>none
  |none=>none
 |_,_,_=>none
theorem zJo{P:Program}{dst:Option Tmp}{t:TypeId}{l c:Operand}{type:TypeId}{pos:String}{after:Array Edge}{guard:Option (Nat×Bool)}{ev:Operand->AV}{s:xB}{cs:List AV}{n:Nat}(h:iW P t (ev l) (ev c)=some (cs,n)):wN P ⟨dst,.makeSlice t l c,type,pos,after,guard⟩ {ev:=ev,al:=[(s.nx,.row cs)],v:=.ms s.nx 0 n n (Z3 P t)}:=by
 unfold iW at h;split at h
 ·rename_i e l' c' hut hl hc;split at h
  ·rename_i ie hie;split at h
   ·rename_i z hz;split at h
    ·rename_i hcond;obtain⟨rfl,h0,hb,h63,hzs,h1⟩:=hcond;cases h;refine wN.value λG σ w a hR hx hcan=>?_;have hlx:V G w (ev l) (a.eval l):=hx l (by simp[Op.operands]);have hcx:V G w (ev c) (a.eval c):=hx c (by simp[Op.operands]);rw[hl]at hlx;rw[hc]at hcx;simp only[V]at hlx hcx;have hn:σ.H s.nx=none:=hcan.al _ _ (List.mem_singleton.2 rfl);have hzl:∀m,VL G w ((List.range m).map λj=>(ofV 8 (z.cells.getD (j%z.cells.size) undef)).frz) ((List.range m).map λj=>z.cells.getD (j%z.cells.size) undef):=by intro m;have:=VL.map_ofV (G:=G) (w:=w) (f:=λv=>(ofV 8 v).frz) (λv=>V.frz _ _ (V.ofV 8 v)) ((List.range m).map λj=>z.cells.getD (j%z.cells.size) undef);simpa[List.map_map,Function.comp_def]using this
     refine⟨.slice (some ⟨w.heap.size,0,none⟩) l'.toNat l'.toNat,w.alloc (.cells ((List.range (l'.toNat*ie.size)).map λj=>z.cells.getD (j%z.cells.size) undef).toArray e),G.addρ s.nx w.heap.size,?_,vL.alloc hR _ hn,?_,?_⟩
     ·have hz':madeCells z.cells (l'.toNat*ie.size)=((List.range (l'.toNat*ie.size)).map λj=>z.cells.getD (j%z.cells.size) undef).toArray:=by apply Array.ext';rw[madeCells,Array.toList_map,Array.toList_range];apply List.map_congr_left;intro j _;have hlt:j%z.cells.size<z.cells.size:=Nat.mod_lt _ (by omega);simp[hlt]
      have hm:=run_make (P:=P) w t e ie z hut hie hz .i64 .i64 l' l' h0 (Int.le_refl _) (by rw[Int.mul_comm];omega) h63;rw[hz']at hm;simp[execOp,hlx,hcx,hm]
     ·rw[m1];exact hR.alloc_row _ _ e (hzl (l'.toNat*ie.size)) hn
     ·simp only[V];exact .inl ⟨w.heap.size,l'.toNat,yR _ _ _,⟨Nat.le_refl _,Nat.le_refl _⟩,0,rfl,.inl ⟨rfl,_,e,uO w _,by simp[Z3,hut,hie]⟩⟩
    ·cases h
   ·cases h
  ·cases h
 ·cases h
def jT(q:Bool)(P:Program)(t:TypeId)(len:Nat)(parts:Array (Nat×Operand))(ev:Operand->AV):Option (List AV×Nat):=match P.underlying t with
 |some (.slice e)=>match P.info? e with
  |some ie=>match ie.zero with
   |some z=>bif Nat.beq z.cells.size ie.size&&Nat.ble (len*ie.size) 16777216&&Nat.ble 1 ie.size then match o8 (λi=>some (i*ie.size,ie.size)) ((List.range (len*ie.size)).map λj=>ofV 8 (z.cells.getD (j%z.cells.size) undef)) (O9 ev parts)with|some cs=>if cs.length=len*ie.size then some (bif q then cs else AV.frzL cs,len)else none|none=>none else none|none=>none
  |none=>none
 |_=>none
def zLm(P:Program)(t:TypeId)(len:Nat)(parts:Array (Nat×Operand))(ev:Operand->AV):Option (List AV×Nat):=jT false P t len parts ev
theorem V8{q:Bool}{P:Program}{dst:Option Tmp}{t:TypeId}{len:Nat}{parts:Array (Nat×Operand)}{type:TypeId}{pos:String}{after:Array Edge}{guard:Option (Nat×Bool)}{ev:Operand->AV}{s:xB}{cs:List AV}{n:Nat}(h:jT q P t len parts ev=some (cs,n)){X:yL}(hX:X=.row cs\/X=.cells cs):wN P ⟨dst,.buildSlice t len parts,type,pos,after,guard⟩ {ev:=ev,al:=[(s.nx,X)],v:=.ms s.nx 0 n n (Z3 P t)}:=by
 unfold jT at h;split at h
 ·rename_i e hut;split at h
  ·rename_i ie hie;split at h;·rename_i z hz;cases hcond:(Nat.beq z.cells.size ie.size&&Nat.ble (len*ie.size) 16777216&&Nat.ble 1 ie.size)with|false=>rw[hcond]at h;cases h|true=>
    rw[hcond,cond_true]at h;simp only[Bool.and_eq_true]at hcond;obtain⟨⟨c1,c2⟩,c3⟩:=hcond;replace c1:=Nat.eq_of_beq_eq_true c1;replace c2:=Nat.le_of_ble_eq_true c2;replace c3:=Nat.le_of_ble_eq_true c3;split at h
    ·rename_i cs0 hcs;split at h;case isFalse=>cases h
     rename_i hlen;cases h;refine wN.value λG σ w a hR hx hcan=>?_;have hn:σ.H s.nx=none:=hcan.al _ _ (List.mem_singleton.2 rfl);have hVP:=VP.map (G:=G) (w:=w) (ev:=ev) (a:=a) parts.toList (λp hp=>hx p.2 (by simp[Op.operands];exact⟨p.1,by simpa using hp⟩));have hzl:∀m,VL G w ((List.range m).map λj=>ofV 8 (z.cells.getD (j%z.cells.size) undef)) ((List.range m).map λj=>z.cells.getD (j%z.cells.size) undef):=by intro m;have:=VL.map_ofV (G:=G) (w:=w) (f:=ofV 8) (V.ofV 8) ((List.range m).map λj=>z.cells.getD (j%z.cells.size) undef);simpa[List.map_map,Function.comp_def]using this
     have hz':((Array.range (len*ie.size)).map (z.cells[·%z.cells.size]!)).toList=(List.range (len*ie.size)).map λj=>z.cells.getD (j%z.cells.size) undef:=by rw[Array.toList_map,Array.toList_range];apply List.map_congr_left;intro j _;have hlt:j%z.cells.size<z.cells.size:=Nat.mod_lt _ (by omega);simp[hlt]
     obtain⟨r',hr',hv⟩:=G6 (G:=G) (w:=w) (O9 ev parts) (parts.toList.map λp=>(p.1,a.eval p.2)) _ ((Array.range (len*ie.size)).map (z.cells[·%z.cells.size]!)) cs0 hVP (by rw[hz'];exact hzl _) hcs;refine⟨.slice (some ⟨w.heap.size,0,none⟩) len len,w.alloc (.cells r'.toList.toArray e),G.addρ s.nx w.heap.size,?_,vL.alloc hR _ hn,?_,?_⟩
     ·have hq:¬len*ie.size>2^24:=by omega
      simp only[execOp,Sem.run_bind,Instr.buildSlice,run_underlying hut,Sem.run_pure,Result.andThen_ok,wF hie];rw[if_neg hq];have e2:(parts.map λ(i,x)=>(i,a.eval x)).toList=parts.toList.map λp=>(p.1,a.eval p.2):=by rw[Array.toList_map]
      by_cases h0:len*ie.size=0
      ·rw[if_pos h0];have h00:∀f:Nat->Value,Array.map f (Array.range 0)=#[]:=λf=>by simp[Array.range_zero']
       simp only[h0,h00]at hr';simp only[Sem.run_bind,Sem.run_pure,Result.andThen_ok,h0,e2,h00,hr'];simp[newRow]
      ·rw[if_neg h0];simp only[Sem.run_bind,Sem.run_pure,Result.andThen_ok,rT hie hz,e2,hr'];simp[newRow]
     ·rw[m1];have hv2:VL G w (bif q then cs0 else AV.frzL cs0) r'.toList:=by cases q;exact VL.frz _ _ hv;exact hv
      rcases hX with rfl|rfl;·exact hR.alloc_row _ _ e hv2 hn
      ·exact hR.alloc_cells _ _ e hv2 hn
     ·simp only[V];exact .inl ⟨w.heap.size,len,yR _ _ _,⟨Nat.le_refl _,Nat.le_refl _⟩,0,rfl,.inl ⟨rfl,_,e,uO w _,by have hl:=VL.length _ _ hv;rw[hlen]at hl;simp[Z3,hut,hie]at hl⊢;omega⟩⟩
    ·cases h
   ·cases h
  ·cases h
 ·cases h
theorem V9{q:Bool}{P:Program}{dst:Option Tmp}{t:TypeId}{len:Nat}{parts:Array (Nat×Operand)}{type:TypeId}{pos:String}{after:Array Edge}{guard:Option (Nat×Bool)}{ev:Operand->AV}{s:xB}{cs:List AV}{n:Nat}(h:jT q P t len parts ev=some (cs,n)):wN P ⟨dst,.buildSlice t len parts,type,pos,after,guard⟩ {ev:=ev,al:=[(s.nx,.row cs)],v:=.ms s.nx 0 n n (Z3 P t)}:=V8 h (.inl rfl)
theorem zJn{P:Program}{dst:Option Tmp}{t:TypeId}{len:Nat}{parts:Array (Nat×Operand)}{type:TypeId}{pos:String}{after:Array Edge}{guard:Option (Nat×Bool)}{ev:Operand->AV}{s:xB}{cs:List AV}{n:Nat}(h:zLm P t len parts ev=some (cs,n)):wN P ⟨dst,.buildSlice t len parts,type,pos,after,guard⟩ {ev:=ev,al:=[(s.nx,.row cs)],v:=.ms s.nx 0 n n (Z3 P t)}:=V9 h
def zPX(P:Program)(t t2:TypeId)(y:AV):Option (List AV×Nat):=none
def zEm(P:Program)(s d:TypeId)(cs:List AV)(n:Nat):Option ByteArray:=none
theorem zJm{P:Program}{dst:Option Tmp}{type:TypeId}{pos:String}{after:Array Edge}{guard:Option (Nat×Bool)}{st dt:TypeId}{x:Operand}{ev:Operand->AV}{i n c:Nat}{cs:List AV}{bs:ByteArray}(hx0:ev x=.ms i 0 n c 1)(h:zEm P st dt cs n=some bs):wN P ⟨dst,.convert st dt x,type,pos,after,guard⟩ {ev:=ev,rd:=[(i,.row cs)],v:=.val (.string bs)}:=by unfold zEm at h;cases h
theorem zPY{P:Program}{dst:Option Tmp}{type:TypeId}{pos:String}{after:Array Edge}{guard:Option (Nat×Bool)}{t t2:TypeId}{x y:Operand}{ev:Operand->AV}{s:xB}{cs:List AV}{n:Nat}(hx0:ev x=.sl [] 0 .nl)(h:zPX P t t2 (ev y)=some (cs,n)):wN P ⟨dst,.call {callee:=.builtin .append,args:=#[x,y],argTypes:=#[t,t2]},type,pos,after,guard⟩ {ev:=ev,al:=[(s.nx,.row cs)],v:=.ms s.nx 0 n n (Z3 P t)}:=by unfold zPX at h;cases h
def yV(P:Program):List Ob->Prop|[]=>True|o::l=>o.ok P/\yV P l
theorem yV.append{P:Program}:∀{a b:List Ob},yV P (a++b)->yV P a/\yV P b|[],_,h=>⟨trivial,h⟩|_::a,_,h=>by obtain⟨h1,h2⟩:=h;obtain⟨h3,h4⟩:=yV.append (a:=a) h2;exact⟨⟨h1,h3⟩,h4⟩
def yAY:Op->Bool|.buildSlice ..|.binOp ..|.unOp ..|.call _|.extract ..|.index ..|.indexAddr ..|.slice ..|.lookup ..|.mapUpdate ..|.convert ..|.load ..|.store ..|.makeSlice ..|.next ..=>true|_=>false
def LA.bit?(la:LA):Option Bool:=match la.v with|.val (.bool b)=>some b|_=>none
def LA.set(la:LA)(v:AV):LA:={la with v:=v}
def zJl(P:Program)(op:Op)(ev:Operand->AV)(s:xB)(os:List lI):Option (LA×List lI×List Ob):=bif yAY op then match os with
 |.no::os=>(V5 P op ev s).map λla=>(la.set (tidy op la.v),os,[])|.wk a::os=>(V5 P op ev s).map λla=>(la.set a,os,[.wk la.v a])|.bit b::os=>match V5 P op ev s with
  |some la=>match la.bit? with|some b0=>some (la.set (.val (.bool b)),os,[.bit b0 b])|none=>none
  |none=>none
 |.av a::os=>some ({ev:=ev,v:=a},os,[.av (pop P op ev) a])|.fz a::os=>some ({ev:=ev,v:=a},os,[.fz (pop P op ev) a])|.lk a::os=>match op with
  |.lookup t x y ok=>match ev x with
   |.obj i=>match look s.H i with|some X=>some ({ev:=ev,rd:=[(i,X)],v:=a},os,[.lk t X (ev y) ok a])|none=>none
   |_=>none
  |.call {callee:=.builtin .len,args,argTypes}=>match args.toList,argTypes.toList with
   |[x],[t]=>match ev x with
    |.obj i=>match look s.H i with|some X=>some ({ev:=ev,rd:=[(i,X)],v:=a},os,[.ln t X a])|none=>none
    |_=>none
   |_,_=>none
  |_=>none
 |.mu Y::os=>match op with
  |.mapUpdate t x y z=>match ev x with
   |.obj i=>match look s.H i with|some X=>some ({ev:=ev,v:=.val undef,wr:=[(i,X,Y)]},os,[.mu t X (ev y) (ev z) Y])|none=>none
   |_=>none
  |_=>none
 |.nx v Y::os=>match op with
  |.next x true=>match ev x with
   |.mp i 0=>match look s.H i with|some X=>some (zXH ev i X v Y,os,[.nx X v Y])|none=>none
   |_=>none
  |_=>none
 |.mk cs n::os=>match op with
  |.makeSlice t l c=>some ({ev:=ev,al:=[(s.nx,.row cs)],v:=.ms s.nx 0 n n (Z3 P t)},os,[.mk (iW P t (ev l) (ev c)) cs n])|.buildSlice t len parts=>some ({ev:=ev,al:=[(s.nx,.row cs)],v:=.ms s.nx 0 n n (Z3 P t)},os,[.mk (zLm P t len parts ev) cs n])|.call {callee:=.builtin .append,args,argTypes}=>match args.toList,argTypes.toList with
   |[x,y],[t,t2]=>match H6 s.H (ev x),A2 s.H (ev y)with|some (d,m,c),some (sr,es,m2,z2)=>some ({ev:=ev,rd:=srd sr,wr:=d.wr,al:=[(s.nx,.row cs)],v:=.ms s.nx 0 n n (aN P t)},os,[.mk (kL P t t2 (d.z (ev x)) c m (sr.map λq=>(q.1,q.1,z2)) es m2) cs n])|_,_=>none
   |_,_=>none
  |_=>none
 |.mkl cs n::os=>match op with|.buildSlice t len parts=>some ({ev:=ev,al:=[(s.nx,.cells cs)],v:=.ms s.nx 0 n n (Z3 P t)},os,[.mk (jT true P t len parts ev) cs n])|_=>none
 |.mkc cs n::os=>match op with
  |.buildSlice t len parts=>some ({ev:=ev,al:=[(s.nx,.row cs)],v:=.ms s.nx 0 n n (Z3 P t)},os,[.mk (jT true P t len parts ev) cs n])|.call {callee:=.builtin .append,args,argTypes}=>match args.toList,argTypes.toList with
   |[x,y],[t,t2]=>match ev x,ev y with
    |.ms i 0 m _ z,.sl es m2 _=>match look s.H i with|some (.cells c0)=>some ({ev:=ev,wr:=[(i,.cells c0,.dead)],al:=[(s.nx,.row cs)],v:=.ms s.nx 0 n n (aN P t)},os,[.mk (kL P t t2 (some z) c0 m none es m2) cs n])|_=>none
    |_,_=>none
   |_,_=>none
  |_=>none
 |.cv bs::os=>match op with
  |.convert st dt x=>match ev x with
   |.ms i 0 n _ 1=>match look s.H i with|some (.row cs)=>some ({ev:=ev,rd:=[(i,.row cs)],v:=.val (.string bs)},os,[.str (zEm P st dt cs n) bs])|_=>none
   |_=>none
  |_=>none
 |.mks cs n::os=>match op with
  |.call {callee:=.builtin .append,args,argTypes}=>match args.toList,argTypes.toList with
   |[x,y],[t,t2]=>match H6 s.H (ev x),ev y with|some (d,m,c),.val (.string bs)=>some ({ev:=ev,wr:=d.wr,al:=[(s.nx,.row cs)],v:=.ms s.nx 0 n n (aN P t)},os,[.mk (zPQ P t t2 (d.z (ev x)) c m bs) cs n])|_,_=>none
   |_,_=>none
  |_=>none
 |.mz cs n::os=>match op with
  |.call {callee:=.builtin .append,args,argTypes}=>match args.toList,argTypes.toList with
   |[x,y],[t,t2]=>match ev x with|.sl [] 0 .nl=>some ({ev:=ev,al:=[(s.nx,.row cs)],v:=.ms s.nx 0 n n (Z3 P t)},os,[.mk (zPX P t t2 (ev y)) cs n])|_=>none
   |_,_=>none
  |_=>none
 |.same::os=>match op with
  |.call {callee:=.builtin .append,args,argTypes}=>match args.toList,argTypes.toList with
   |[x,y],[t,t2]=>match H6 s.H (ev x),A2 s.H (ev y)with|some _,some (_,_,m2,_)=>some ({ev:=ev,v:=ev x},os,[.same t t2 m2])|_,_=>none
   |_,_=>none
  |_=>none
 |.inp cs::os=>match op with
  |.call {callee:=.builtin .append,args,argTypes}=>match args.toList,argTypes.toList with
   |[x,y],[t,t2]=>match ev x with
    |.ms i 0 n c z=>match look s.H i,A2 s.H (ev y)with|some (.row c0),some (sr,es,n2,z2)=>some ({ev:=ev,rd:=srd sr,wr:=[(i,.row c0,.row cs)],v:=.ms i 0 (n+n2) c z},os,[.inp (zJr P t t2 z c0 n c (sr.map λ_=>z2) es n2) cs])|_,_=>none
    |_=>none
   |_,_=>none
  |_=>none
 |.clr::os=>match op with
  |.call {callee:=.builtin .clear,args,argTypes}=>match args.toList,argTypes.toList with
   |[x],[t]=>match ev x with
    |.ms i off _ _ z=>match look s.H i with|some (.row c0)=>some ({ev:=ev,wr:=[(i,.row c0,.row c0)],v:=.tup []},os,[.clr t c0.length off z])|_=>none
    |_=>none
   |_,_=>none
  |_=>none
 |.zs::os=>match op with
  |.slice t x none (some y) (some z)=>match P.underlying t,ev x,ev y,ev z with
   |some (.slice e),.ms _ _ _ _ _,.val (.int _ 0),.val (.int _ 0)=>match P.info? e with|some _=>some ({ev:=ev,v:=.sl [] 0 .full},os,[])|none=>none
   |_,_,_,_=>none
  |_=>none
 |.ld a::os=>match op with
  |.load t x=>match tsz P t,ev x with
   |some q,.mp i off=>match look s.H i with|some (.row cs)=>some ({ev:=ev,rd:=[(i,.row cs)],v:=a},os,[.ld (pE q (cs.drop off)) a])|_=>none
   |_,_=>none
  |_=>none
 |.cl::os=>match op with
  |.load t x=>match tsz P t,ev x with
   |some (false,_),.mp i off=>match look s.H i with
    |some (.cells cs)=>match cs[off]? with|some r=>some ({ev:=ev,rc:=[(i,off,r)],v:=r},os,[])|none=>none
    |_=>none
   |_,_=>none
  |_=>none
 |.wt cs'::os=>match op with
  |.store t x y=>match P.info? t,ev x with
   |some ti,.mp i off=>match look s.H i with|some (.row cs)=>some ({ev:=ev,wr:=[(i,.row cs,.row cs')],v:=.val undef},os,[.wt cs off (ev y) ti.size cs'])|_=>none
   |_,_=>none
  |_=>none
 |.sl es' n'::os=>match V5 P op ev s with
  |some la=>match tidy op la.v with|.sl cs len o=>some (la.set (.sl es' n' o),os,[.cells cs es' len n'])|_=>none
  |none=>none
 |.app es' n' sz empty::os=>match op with
  |.call {callee:=.builtin .append,args,argTypes}=>match args.toList,argTypes.toList with
   |[x,y],[t,t2]=>match ev x,ev y with
    |.sl es n o,.sl es2 n2 _=>match zLn ev s.ns s.own o es' n' sz empty with|some la=>some (la,os,[.app t t2 es es2 es' n n2 n' sz empty])|none=>none
    |.sl es n o,.val (.string bs)=>match zLn ev s.ns s.own o es' n' sz empty with|some la=>some (la,os,[.aps t t2 es bs es' n n' sz empty])|none=>none
    |_,_=>none
   |_,_=>none
  |_=>none
 |_=>none else(V5 P op ev s).map λla=>(la.set (tidy op la.v),os,[])
mutual def AV.numB(ι:List Nat):AV->Bool
 |.val _=>true|.agg cs=>AV.numLB ι cs|.tup cs=>AV.numLB ι cs|.sl _ _ o=>match o with|.st _ _=>false|.fr=>false|_=>true
 |.ip _=>true|.mp i _=>ι.any (Nat.beq i)|.ms i _ _ _ _=>ι.any (Nat.beq i)|.obj i=>ι.any (Nat.beq i)|.clo _ fs cs=>AV.numLB ι fs&&AV.numLB ι cs def AV.numLB(ι:List Nat):List AV->Bool|[]=>true|a::l=>AV.numB ι a&&AV.numLB ι l end
mutual theorem zTW{ι:List Nat}{nx:Nat}:∀a:AV,a.numB ι=true->(a.ren (tJ ι) jE).ren (rV ι nx) jE=a
 |.val _,_=>rfl|.agg cs,h=>by simp only[AV.ren,pG cs h]|.tup cs,h=>by simp only[AV.ren,pG cs h]|.sl es n o,h=>by cases o with|no=>rfl|full=>rfl|nl=>rfl|nn=>rfl|z=>rfl|fr=>simp[AV.numB]at h|st k sz=>simp[AV.numB]at h
 |.ip _,_=>rfl|.mp i off,h=>by obtain⟨t,ht⟩:=jR (uK.1 h);simp only[AV.ren,tJ,ht,Option.getD_some,rV,nA ht]|.ms i off n c sz,h=>by obtain⟨t,ht⟩:=jR (uK.1 h);simp only[AV.ren,tJ,ht,Option.getD_some,rV,nA ht]|.obj i,h=>by obtain⟨t,ht⟩:=jR (uK.1 h);simp only[AV.ren,tJ,ht,Option.getD_some,rV,nA ht]|.clo g fs cs,h=>by simp only[AV.numB,Bool.and_eq_true]at h;simp only[AV.ren,pG fs h.1,pG cs h.2]theorem pG{ι:List Nat}{nx:Nat}:∀as0:List AV,AV.numLB ι as0=true->AV.renL (rV ι nx) jE (AV.renL (tJ ι) jE as0)=as0|[],_=>rfl|a::as0,h=>by simp only[AV.numLB,Bool.and_eq_true]at h;simp only[AV.renL,zTW a h.1,pG as0 h.2]end
def yL.numB(ι:List Nat):yL->Bool|.cells cs=>AV.numLB ι cs|.obj _=>true|.row _=>true|.dead=>true
theorem zFT{ι:List Nat}{nx:Nat}{X:yL}(h:X.numB ι=true):(X.ren (tJ ι) jE).ren (rV ι nx) jE=X:=by cases X with|cells cs=>simp only[yL.ren,pG cs h]|obj o=>rfl|row cs=>rfl|dead=>rfl
def tK(H:List (Nat×yL))(ι:List Nat):List Nat->List yL|[]=>[]|i::l=>((look H i).getD (.cells [])).ren (tJ ι) jE::tK H ι l
def inB(H:List (Nat×yL))(ι:List Nat):List Nat->Bool|[]=>true|i::l=>(match look H i with|some X=>X.numB ι|none=>false)&&inB H ι l
theorem A4{H:List (Nat×yL)}{ι:List Nat}:∀l,(tK H ι l).length=l.length|[]=>rfl|_::l=>by simp[tK,A4 l]
theorem zPZ{H:List (Nat×yL)}{ι:List Nat}{nx:Nat}{f:Nat->Option Nat}:∀(l:List Nat)(H1:List yL),inB H ι l=true->∀i X Y,(i,X,Y)∈O8 (rV ι nx) f l (tK H ι l) H1->look H i=some X
 |[],_,_,i,X,Y,h=>by simp[O8]at h|j::l,[],_,i,X,Y,h=>by simp[O8,tK]at h|j::l,Z::H1,hb,i,X,Y,h=>by
  simp only[inB,Bool.and_eq_true]at hb;simp only[O8,tK,List.mem_cons,Prod.mk.injEq]at h;rcases h with⟨rfl,rfl,_⟩|h;·cases hl:look H i with|none=>rw[hl]at hb;exact absurd hb.1 (by simp)|some W=>rw[hl]at hb;simp only[Option.getD_some,zFT hb.1]
  ·exact zPZ l H1 hb.2 i X Y h
def A5(f:FuncId)(aa:List AV)(ev:Operand->AV)(s:xB)(ι:List Nat)(H1:List yL)(nst:Nat)(res:AV)(b:Option Bool):Option (LA×List Ob):=bif eA ι&&inB s.H ι ι&&Nat.ble ι.length H1.length&&AV.numLB ι aa then match b with|none=>some ({tO ι s.nx s.ns (tK s.H ι ι) H1 nst res with ev:=ev},[.call f (tK s.H ι ι) (AV.renL (tJ ι) jE aa) res H1 nst])|some b=>match(tO ι s.nx s.ns (tK s.H ι ι) H1 nst res).bit? with|some b0=>some ({tO ι s.nx s.ns (tK s.H ι ι) H1 nst res with ev:=ev,v:=.val (.bool b)},[.bit b0 b,.call f (tK s.H ι ι) (AV.renL (tJ ι) jE aa) res H1 nst])|none=>none else none
def zQz(la:LA):LA:={la with rd:=la.rd++la.wr.map (λp=>(p.1,p.2.1)),wr:=[]}
def zFU(f:FuncId)(aa:List AV)(ev:Operand->AV)(s:xB)(ι:List Nat)(H1:List yL)(nst:Nat)(res:AV)(b:Option Bool):Option (LA×List Ob):=bif H1.isEmpty&&!ι.isEmpty&&Nat.beq nst 0 then match A5 f aa ev s ι (tK s.H ι ι) nst res b with|some (la,ob)=>some (zQz la,ob)|none=>none else A5 f aa ev s ι H1 nst res b
def fD(P:Program)(f:FuncId):Bool:=match P.funcs[f]? with|some fn=>!(fn.name=="runtime.NumGoroutine")&&!fn.body.isNone|none=>false
def zTX(P:Program)(pr:FuncId->List AV->xB->Option LA)(op:Op)(ev:Operand->AV)(s:xB)(os:List lI):Option (LA×List lI×List Ob):=match op with
 |.call {callee:=.value g,args,argTypes:=_}=>match ev g,os with
  |.clo f first caps,.call ι H1 nst res b::os=>bif fD P f then match zFU f (AV.frzL (first++args.toList.map ev++caps)) ev s ι H1 nst res b with|some (la,ob)=>some (la,os,ob)|none=>none else none|.clo f first caps,.callx ι H1 nst res b::os=>bif fD P f then match zFU f (first++args.toList.map ev++caps) ev s ι H1 nst res b with|some (la,ob)=>some (la,os,ob)|none=>none else none|.clo f first caps,.callk kp ι H1 nst res::os=>bif fD P f&&kp.all (λp=>Nat.blt p.1 ι.length)then match A5 f (AV.frzL (first++args.toList.map ev++caps)) ev s ι H1 nst res none with|some (la,ob)=>some ({la with kp:=kp.map λp=>(ι.getD p.1 0,p.2)},os,.kp (tK s.H ι ι) H1 kp::ob)|none=>none else none|.clo f first caps,.no::os=>match pr f (first++args.toList.map ev++caps) s with|some la=>some ({la with ev:=ev},os,[])|none=>none
  |_,_=>none
 |op=>zJl P op ev s os
theorem w6{s:xB}{la:LA}(h:s.fit la){ev:Operand->AV}{v:AV}:s.fit {la with ev:=ev,v:=v}:=⟨h.rd,h.wr,h.al,h.lo,h.use,h.ns,h.rc,h.kp⟩
theorem wN.set{P:Program}{o:Oper}{la:LA}(h:wN P o la){v:AV}(hv:∀G w u,V G w la.v u->V G w v u):wN P o {la with v:=v}:=by intro G σ w a K Q hR hx hc hK;exact h G σ w a K Q hR hx ⟨hc.rd,hc.wr,hc.al,hc.use,hc.ns,hc.hole,hc.rc,hc.kp⟩ λu G' w' hE hR' hu=>hK u G' w' hE hR' (hv _ _ _ hu)
theorem j8{P:Program}{args:Array Operand}{argTypes:Array TypeId}{x y:Operand}{t t2:TypeId}{ev:Operand->AV}{s:xB}(h1:args.toList=[x,y])(h2:argTypes.toList=[t,t2]):V5 P (.call {callee:=.builtin .append,args:=args,argTypes:=argTypes}) ev s=zFH P t t2 ev (ev x) (ev y) s:=by unfold V5;simp only[pop,h1,h2]
theorem zJk{P:Program}{t:TypeId}{x y:Operand}{ok:Bool}{ev:Operand->AV}{s:xB}:V5 P (.lookup t x y ok) ev s=kS P t ev (ev x) (ev y) ok s:=by unfold V5;simp only[pop]
theorem zCs{P:Program}{t:TypeId}{x y z:Operand}{ev:Operand->AV}{s:xB}:V5 P (.mapUpdate t x y z) ev s=rU P t ev (ev x) (ev y) (ev z) s:=by unfold V5;simp only[pop]
theorem zQy{P:Program}{x:Operand}{b:Bool}{ev:Operand->AV}{s:xB}:V5 P (.next x b) ev s=zCd ev (ev x) b s:=by unfold V5;simp only[pop]
theorem j9{P:Program}{op:Op}{ev:Operand->AV}{s:xB}{a:AV}(h:pop P op ev=some a):V5 P op ev s=some {ev:=ev,v:=a}:=by unfold V5;rw[h]
theorem tY.weak{P:Program}{f:FuncId}{args:List AV}{la:LA}(h:tY P f (AV.frzL args) la):tY P f args la:=by intro dst type pos after guard g cargs argTypes first caps ev hg hargs;have h':=h dst type pos after guard g cargs argTypes (AV.frzL first) (AV.frzL caps) (λx=>(ev x).frz) (by simp only[hg,AV.frz]) (by rw[hargs,eC,eC,zFS]);intro G σ w a K Q hR hx hc hK;refine h' G σ w a K Q hR (λx hxm=>V.frz _ _ (hx x hxm)) ⟨hc.rd,hc.wr,hc.al,hc.use,hc.ns,hc.hole,hc.rc,hc.kp⟩ hK
theorem A6{s:xB}{ι:List Nat}{H1:List yL}{nst:Nat}{res:AV}(hb:inB s.H ι ι=true):s.fit (tO ι s.nx s.ns (tK s.H ι ι) H1 nst res):=⟨λi X h=>by simp[tO]at h,λi X Y h=>zPZ ι H1 hb i X Y h,λi X h=>(zLp _ _ _ _ h).1,λh=>by simp[tO]at h,λk h=>by simp[tO]at h,λ_=>rfl,λi k v h=>by simp[tO]at h,λi k X Y h=>by simp[tO]at h⟩
theorem i4{P:Program}{f:FuncId}{aa:List AV}{ev:Operand->AV}{s:xB}{ι:List Nat}{H1:List yL}{nst:Nat}{res:AV}{b:Option Bool}{la:LA}{ob:List Ob}(hf:fD P f=true)(h:A5 f aa ev s ι H1 nst res b=some (la,ob))(hob:yV P ob):∃la0,la0.wr=(tO ι s.nx s.ns (tK s.H ι ι) H1 nst res).wr/\s.fit la0/\tY P f aa la0/\(∀G w u,V G w la0.v u->V G w la.v u)/\la={la0 with ev:=ev,v:=la.v}:=by unfold A5 at h;cases hc:(eA ι&&inB s.H ι ι&&Nat.ble ι.length H1.length&&AV.numLB ι aa)with|false=>rw[hc]at h;cases h|true=>
 rw[hc]at h;simp only[cond_true]at h;simp only[Bool.and_eq_true]at hc;obtain⟨⟨⟨c1,c2⟩,c3⟩,c4⟩:=hc;have hlen:ι.length=(tK s.H ι ι).length:=(A4 ι).symm;have key:CT P f (tK s.H ι ι) (AV.renL (tJ ι) jE aa) res H1 nst->tY P f aa (tO ι s.nx s.ns (tK s.H ι ι) H1 nst res):=by
  intro hct;have hu:=uS.uni hct.tri hct.args hct.H0 hct.res hct.H1 ι hlen (by rw[<-hlen];exact Nat.le_of_ble_eq_true c3) (pF _ c1) s.nx s.ns;rw[pG _ c4]at hu;unfold fD at hf;split at hf
  ·rename_i fn hfn;simp only[Bool.and_eq_true,Bool.not_eq_true']at hf;exact tY.of hfn hf.1 hf.2 hu
  ·cases hf
 cases b with|none=>simp only[Option.some.injEq,Prod.mk.injEq]at h;obtain⟨rfl,rfl⟩:=h;exact⟨_,rfl,A6 c2,key hob.1,λ_ _ _ e=>e,rfl⟩|some b=>
  simp only at h;split at h
  ·rename_i b0 hb;simp only[Option.some.injEq,Prod.mk.injEq]at h;obtain⟨rfl,rfl⟩:=h;have hb':b0=b:=hob.1;subst hb';refine⟨_,rfl,A6 c2,key hob.2.1,λG w u e=>?_,rfl⟩;unfold LA.bit? at hb;split at hb
   ·rename_i b1 hv;cases hb;rw[hv]at e;exact e
   ·cases hb
  ·cases h
theorem zFV{H:Nat->Option yL}:∀(l:List (Nat×yL)),(∀p∈l,H p.1=some p.2)->fO H l=H
 |[],_=>rfl|p::l,h=>by
  simp only[fO];rw[zFV l λq hq=>h q (by simp[hq])];funext i;by_cases e:i=p.1;·subst e;rw[yR];exact(h p (by simp)).symm
  ·rw[xO _ _ e]
theorem wN.ro{P:Program}{o:Oper}{la:LA}(h:wN P o la)(hs:∀i X Y,(i,X,Y)∈la.wr->X=Y):wN P o (zQz la):=by
 intro G σ w a K Q hR hx hc hK;have hw:∀i X Y,(i,X,Y)∈la.wr->σ.H i=some X:=λi X Y h=>hc.rd i X (List.mem_append_right _ (List.mem_map.2 ⟨_,h,rfl⟩));have e:(zQz la).app σ=la.app σ:=by
  unfold LA.app zQz;have:fO σ.H (la.wr.map λp=>(p.1,p.2.2))=σ.H:=zFV _ λp hp=>by obtain⟨⟨i,X,Y⟩,hm,rfl⟩:=List.mem_map.1 hp;have:=hs i X Y hm;subst this;exact hw i X X hm
  simp only[this,List.map_nil,fO]
 refine h G σ w a K Q hR hx ⟨λi X hX=>hc.rd i X (List.mem_append_left _ hX),hw,hc.al,hc.use,hc.ns,hc.hole,hc.rc,λi k X Y _ h=>by rw[hs i X Y h]⟩ λu G' w' hE hR' hv=>hK u G' w' hE ?_ hv;rw[e];exact hR'
theorem zFW{r:Nat->Nat}:∀(ι:List Nat)(H:List yL)(i:Nat)(X Y:yL),(i,X,Y)∈O8 r jE ι H H->X=Y
 |[],_,_,_,_,h=>by simp[O8]at h|_::_,[],_,_,_,h=>by simp[O8]at h|a::ι,b::H,i,X,Y,h=>by
  simp only[O8,List.mem_cons,Prod.mk.injEq]at h;rcases h with⟨_,rfl,rfl⟩|h;·rfl
  ·exact zFW ι H i X Y h
theorem zQx(ns:Nat):cst ns 0=jE:=by
 funext k;unfold cst jE;have:Nat.blt k 0=false:=by cases h:Nat.blt k 0 with|false=>rfl|true=>rw[Nat.blt_eq]at h;omega
 rw[this];rfl
theorem zCE{P:Program}{f:FuncId}{aa:List AV}{ev:Operand->AV}{s:xB}{ι:List Nat}{H1:List yL}{nst:Nat}{res:AV}{b:Option Bool}{la:LA}{ob:List Ob}(hf:fD P f=true)(h:zFU f aa ev s ι H1 nst res b=some (la,ob))(hob:yV P ob):∃la0,s.fit la0/\tY P f aa la0/\(∀G w u,V G w la0.v u->V G w la.v u)/\la={la0 with ev:=ev,v:=la.v}:=by unfold zFU at h;cases hc:(H1.isEmpty&&!ι.isEmpty&&Nat.beq nst 0)with|false=>rw[hc]at h;obtain⟨la0,-,h1⟩:=i4 hf h hob;exact⟨la0,h1⟩|true=>
 rw[hc]at h;simp only[cond_true]at h;simp only[Bool.and_eq_true]at hc;have hn:nst=0:=Nat.eq_of_beq_eq_true hc.2;subst hn;split at h
 ·rename_i la1 ob1 hx;simp only[Option.some.injEq,Prod.mk.injEq]at h;obtain⟨rfl,rfl⟩:=h;obtain⟨la0,hw,h1,h2,h3,h4⟩:=i4 hf hx hob;have hs:∀i X Y,(i,X,Y)∈la0.wr->X=Y:=λi X Y hm=>by rw[hw]at hm;simp only[tO,zQx]at hm;exact zFW _ _ _ _ _ hm
  refine⟨zQz la0,⟨λi X hX=>?_,λi X Y hX=>(nomatch hX),h1.al,h1.lo,h1.use,h1.ns,h1.rc,λi k X Y _ h=>(nomatch h)⟩,?_,h3,?_⟩
  ·rcases List.mem_append.1 hX with hX|hX;·exact h1.rd i X hX
   ·obtain⟨⟨i',X',Y'⟩,hm,e⟩:=List.mem_map.1 hX;simp only[Prod.mk.injEq]at e;obtain⟨rfl,rfl⟩:=e;exact h1.wr _ _ _ hm
  ·intro dst type pos after guard g cargs argTypes first caps ev hg hargs;exact(h2 dst type pos after guard g cargs argTypes first caps ev hg hargs).ro hs
  ·rw[h4];rfl
 ·cases h
theorem zQw{P:Program}{f:FuncId}{aa:List AV}{ev:Operand->AV}{s:xB}{ι:List Nat}{H1:List yL}{nst:Nat}{res:AV}{b:Option Bool}{la:LA}{ob:List Ob}(hf:fD P f=true)(h:zFU f (AV.frzL aa) ev s ι H1 nst res b=some (la,ob))(hob:yV P ob):∃la0,s.fit la0/\tY P f aa la0/\(∀G w u,V G w la0.v u->V G w la.v u)/\la={la0 with ev:=ev,v:=la.v}:=by obtain⟨la0,h1,h2,h3⟩:=zCE hf h hob;exact⟨la0,h1,h2.weak,h3⟩
theorem i5{r:Nat->Nat}{f:Nat->Option Nat}(X:yL)(k:Nat):pV (X.ren r f) k=(pV X k).map (AV.ren r f):=by cases X with
 |cells cs=>
  simp only[yL.ren,pV];have:∀(cs:List AV)(k:Nat),(AV.renL r f cs)[k]?=cs[k]?.map (AV.ren r f):=by intro cs;induction cs with|nil=>intro k;simp[AV.renL]|cons a l ih=>intro k;cases k with|zero=>simp[AV.renL]|succ k=>simp only[AV.renL,List.getElem?_cons_succ];exact ih k
  exact this cs k|obj o=>rfl|row cs=>rfl|dead=>rfl
theorem zJp.mem{H0 H1:List yL}:∀{l:List (Nat×Nat)},zJp H0 H1 l->∀p∈l,∃a,pV (H0.getD p.1 .dead) p.2=some a/\pV (H1.getD p.1 .dead) p.2=some a/\∀r f g,a.ren r f=a.ren r g
 |[],_,_,h=>by simp at h|q::l,hk,p,h=>by
  rcases List.mem_cons.1 h with rfl|h;·exact hk.1
  ·exact zJp.mem hk.2 p h
theorem zLl{r:Nat->Nat}{f:Nat->Option Nat}:∀(ι:List Nat)(H0 H1:List yL)(i:Nat)(X Y:yL),(i,X,Y)∈O8 r f ι H0 H1->∃j,j<ι.length/\ι.getD j 0=i/\X=(H0.getD j .dead).ren r jE/\Y=(H1.getD j .dead).ren r f
 |[],_,_,_,_,_,h=>by simp[O8]at h|_::_,[],_,_,_,_,h=>by simp[O8]at h|_::_,_::_,[],_,_,_,h=>by simp[O8]at h|a::ι,b::H0,c::H1,i,X,Y,h=>by
  simp only[O8,List.mem_cons,Prod.mk.injEq]at h;rcases h with⟨rfl,rfl,rfl⟩|h;·exact⟨0,by simp,rfl,rfl,rfl⟩
  ·obtain⟨j,h0,h1,h2,h3⟩:=zLl ι H0 H1 i X Y h;exact⟨j+1,by simpa using h0,by simpa using h1,by simpa using h2,by simpa using h3⟩
theorem zNm{P:Program}{f:FuncId}{aa:List AV}{ev:Operand->AV}{s:xB}{ι:List Nat}{H1:List yL}{nst:Nat}{res:AV}{la:LA}{ob:List Ob}{kp:List (Nat×Nat)}(hf:fD P f=true)(hb:kp.all (λp=>Nat.blt p.1 ι.length)=true)(h:A5 f (AV.frzL aa) ev s ι H1 nst res none=some (la,ob))(hk:zJp (tK s.H ι ι) H1 kp)(hob:yV P ob):∃la0:LA,la={la0 with ev:=ev}/\s.fit {la0 with kp:=kp.map λp=>(ι.getD p.1 0,p.2)}/\tY P f aa {la0 with kp:=kp.map λp=>(ι.getD p.1 0,p.2)}:=by have h0:=h;clear h;unfold A5 at h0;cases hc:(eA ι&&inB s.H ι ι&&Nat.ble ι.length H1.length&&AV.numLB ι (AV.frzL aa))with|false=>rw[hc]at h0;cases h0|true=>
 rw[hc]at h0;simp only[cond_true,Option.some.injEq,Prod.mk.injEq]at h0;have hc2:=hc;simp only[Bool.and_eq_true]at hc;obtain⟨⟨⟨c1,c2⟩,c3⟩,c4⟩:=hc;have hnd:=pF _ c1;obtain⟨e1,e2⟩:=h0;refine⟨tO ι s.nx s.ns (tK s.H ι ι) H1 nst res,e1.symm,?_,?_⟩
 ·have g:=A6 (nst:=nst) (res:=res) (H1:=H1) c2;refine⟨g.rd,g.wr,g.al,g.lo,g.use,g.ns,g.rc,λi k X Y hm hw=>?_⟩;obtain⟨p,hp,e⟩:=List.mem_map.1 hm;simp only[Prod.mk.injEq]at e;obtain⟨rfl,rfl⟩:=e;have hw':(ι.getD p.1 0,X,Y)∈O8 (rV ι s.nx) (cst s.ns nst) ι (tK s.H ι ι) H1:=hw;obtain⟨j,j1,j2,rfl,rfl⟩:=zLl _ _ _ _ _ _ hw';have hl:p.1<ι.length:=by simpa using List.all_eq_true.1 hb p hp
  have hj:j=p.1:=by simp only[List.getD_eq_getElem?_getD,List.getElem?_eq_getElem j1,List.getElem?_eq_getElem hl,Option.getD_some]at j2;exact(List.getElem_inj hnd).1 j2
  subst hj;obtain⟨a,a1,a2,a3⟩:=hk.mem p hp;rw[i5,i5,a1,a2];exact congrArg some (a3 _ _ _)
 ·have hlen:ι.length=(tK s.H ι ι).length:=(A4 ι).symm;subst e2;have hct:CT P f (tK s.H ι ι) (AV.renL (tJ ι) jE (AV.frzL aa)) res H1 nst:=hob.1;have hu:=uS.uni hct.tri hct.args hct.H0 hct.res hct.H1 ι hlen (by rw[<-hlen];exact Nat.le_of_ble_eq_true c3) (pF _ c1) s.nx s.ns;rw[pG _ c4]at hu;unfold fD at hf;split at hf
  ·rename_i fn hfn;simp only[Bool.and_eq_true,Bool.not_eq_true']at hf;have hco:=(tY.of hfn hf.1 hf.2 hu).weak;intro dst type pos after guard g cargs argTypes first caps ev hg hargs G σ w a K Q hR hx hc hK;exact hco dst type pos after guard g cargs argTypes first caps ev hg hargs G σ w a K Q hR hx ⟨hc.rd,hc.wr,hc.al,hc.use,hc.ns,hc.hole,hc.rc,λi k X Y h=>by simp[tO]at h⟩ hK
  ·cases hf
theorem zFX{P:Program}{dst:Option Tmp}{t:TypeId}{x:Operand}{type:TypeId}{pos:String}{after:Array Edge}{guard:Option (Nat×Bool)}{ev:Operand->AV}{i off n:Nat}{r:AV}(hq:tsz P t=some (false,n))(he:ev x=.mp i off):wN P ⟨dst,.load t x,type,pos,after,guard⟩ {ev:=ev,rc:=[(i,off,r)],v:=r}:=by intro G σ w a K Q hR hx hc hK;obtain⟨X,e1,e2⟩:=hc.rc i off r (List.mem_singleton.2 rfl);cases X with
 |cells cs=>
  have hcs:cs[off]?=some r:=e2;have hd:pE (false,n) (cs.drop off)=some r:=by cases hdr:cs.drop off with|nil=>have:=List.getElem?_drop (xs:=cs) (i:=off) (j:=0);rw[hdr,Nat.add_zero,hcs]at this;cases this|cons c l=>have:=List.getElem?_drop (xs:=cs) (i:=off) (j:=0);rw[hdr,Nat.add_zero,hcs]at this;simp only[List.getElem?_cons_zero]at this;exact this
  have he':eop P (Oper.mk dst (.load t x) type pos after guard).op ev ⟨[(i,.cells cs)],0,[],0,[]⟩=some {ev:=ev,rd:=[(i,.cells cs)],v:=r}:=by
   have hl:look [(i,yL.cells cs)] i=some (.cells cs):=by simp[look]
   simp only[eop,hq,he,hl,hd]
  refine(zPC he').1 G σ w a K Q hR hx ⟨λj Y h=>?_,λi X Y h=>by simp at h,λi X h=>by simp at h,λk h=>by simp at h,λh=>by simp at h,λi h1 h2=>by simp at h2,λi k v h=>by simp at h,λi k X Y h=>by simp at h⟩ hK;simp only[List.mem_singleton,Prod.mk.injEq]at h;obtain⟨rfl,rfl⟩:=h;exact e1|_=>cases e2
theorem zXJ{s:xB}{ev:Operand->AV}{v r:AV}{i k:Nat}{X:yL}(hX:look s.H i=some X)(hk:pV X k=some r):s.fit {ev:=ev,rc:=[(i,k,r)],v:=v}:=⟨λi X h=>by simp at h,λi X Y h=>by simp at h,λi X h=>by simp at h,λh=>by simp at h,λk h=>by simp at h,λh=>by simp at h,λj m u h=>by simp only[List.mem_singleton,Prod.mk.injEq]at h;obtain⟨rfl,rfl,rfl⟩:=h;exact⟨X,hX,hk⟩,λi k X Y h=>by simp at h⟩
theorem zJj{P:Program}{dst:Option Tmp}{t:TypeId}{x:Operand}{type:TypeId}{pos:String}{after:Array Edge}{guard:Option (Nat×Bool)}{ev:Operand->AV}{i off:Nat}{q:Bool×Nat}{cs:List AV}{r:AV}(hq:tsz P t=some q)(he:ev x=.mp i off)(hr:pE q (cs.drop off)=some r):wN P ⟨dst,.load t x,type,pos,after,guard⟩ {ev:=ev,rd:=[(i,.row cs)],v:=r}:=by refine wN.reads λG σ w a hR hx hrd=>?_;have hX:=hrd _ _ (List.mem_singleton.2 rfl);have hxx:=hx x (by simp[Op.operands]);rw[he]at hxx;simp only[V]at hxx;obtain⟨b,hb,hxe⟩:=hxx;obtain⟨_,vs,T,hh,hl⟩:=hR.blk _ b _ hb hX;obtain⟨u,hu,hv⟩:=P1 hq hh hl hr;exact⟨u,by simp[execOp,hxe,hu],hv⟩
theorem yAZ{P:Program}{dst:Option Tmp}{t e:TypeId}{x y z:Operand}{type:TypeId}{pos:String}{after:Array Edge}{guard:Option (Nat×Bool)}{ev:Operand->AV}{i off n c sz:Nat}{k k':IntKind}{ie:TypeInfo}(ht:P.underlying t=some (.slice e))(hi:P.info? e=some ie)(hx:ev x=.ms i off n c sz)(hy:ev y=.val (.int k 0))(hz:ev z=.val (.int k' 0)):wN P ⟨dst,.slice t x none (some y) (some z),type,pos,after,guard⟩ {ev:=ev,v:=.sl [] 0 .full}:=by
 refine wN.reads λG σ w a hR hxs hrd=>?_;have h1:=hxs x (by simp[Op.operands]);have h2:=hxs y (by simp[Op.operands]);have h3:=hxs z (by simp[Op.operands]);rw[hx]at h1;rw[hy]at h2;rw[hz]at h3;simp only[V]at h1;have h1':∃p n' cap,a.eval x=.slice p n' cap:=by
  rcases h1 with⟨b,cap,-,-,o,hxe,-⟩|⟨-,-,p,hxe⟩;·exact⟨_,_,_,hxe⟩
  ·exact⟨_,_,_,hxe⟩
 obtain⟨p,n',cap,hxe⟩:=h1';have hb:=lP (P:=P) (w:=w) (G:=G) (isS:=true) (n:=0) (cap:=cap) (m:=0) (h:=0) (l:=0) (full:=true) (lo:=none) (hi:=some (.val (.int k 0))) (mx:=some (.val (.int k' 0))) (vlo:=none) (vhi:=some (a.eval y)) (vmx:=some (a.eval z)) (λ_ h=>by cases h) (λ_ h=>by cases h;exact⟨_,rfl,h2⟩) (λ_ h=>by cases h;exact⟨_,rfl,h3⟩) (λ_=>rfl) (λh=>by cases h) (λh=>by cases h) (Nat.zero_le _) rfl rfl rfl (by simp);have hs:(Instr.sliceBounds true n' cap none (some (a.eval y)) (some (a.eval z))).run P w=.ok (0,0,0) w:=by have:=hb.1;simpa[Instr.sliceBounds]using this
 refine⟨.slice p 0 0,?_,?_⟩;·simp[execOp,hxe,Instr.sliceAt,run_underlying ht,Instr.slice,hs,wF hi]
 ·simp only[V];exact⟨0,Nat.le_refl _,.inl ⟨by first|rfl|trivial,by first|rfl|trivial,by first|rfl|trivial,by simp[aB],trivial⟩⟩
theorem zFY{P:Program}{dst:Option Tmp}{t:TypeId}{x y:Operand}{type:TypeId}{pos:String}{after:Array Edge}{guard:Option (Nat×Bool)}{ev:Operand->AV}{i off:Nat}{ti:TypeInfo}{cs cs':List AV}(hi:P.info? t=some ti)(he:ev x=.mp i off)(c1:(ev y).sound=true)(c2:(rR (ev y)).length=ti.size)(c3:off+ti.size<=cs.length)(c4:splice cs off (rR (ev y))=cs'):wN P ⟨dst,.store t x y,type,pos,after,guard⟩ {ev:=ev,wr:=[(i,.row cs,.row cs')],v:=.val undef}:=by
 subst c4;refine wN.skip rfl λG σ w a hR hx hc=>?_;have hX:=hc.wr _ _ _ (List.mem_singleton.2 rfl);have hxx:V G w (ev x) (a.eval x):=hx x (by simp[Op.operands]);rw[he]at hxx;simp only[V]at hxx;obtain⟨b,hb,hxe⟩:=hxx;obtain⟨_,vs,T,hh,hl⟩:=hR.blk _ b _ hb hX;obtain⟨hyv,hy1⟩:=V.cells (a:=ev y) (hx y (by simp[Op.operands])) c1;have hyl:=VL.length _ _ hyv;have hvl:=hl.le;have hsz:(a.eval y).cells.size=ti.size:=by rw[<-c2,<-hyl];simp
 have hst:=run_storeCells_at P b off T (a.eval y).cells.toList 0 vs w hh (by simp only[Array.length_toList]at hvl⊢;omega) hy1;simp only[Nat.add_zero]at hst;have hlen:vs.size<=(vs.toList.take off++(a.eval y).cells.toList++vs.toList.drop (off+(a.eval y).cells.toList.length)).length:=by simp only[List.length_append,List.length_take,List.length_drop,Array.length_toList]at hvl⊢;omega
 refine⟨w.setRow b (vs.toList.take off++(a.eval y).cells.toList++vs.toList.drop (off+(a.eval y).cells.toList.length)).toArray,G,?_,(vL.setRow hR hb _ (λo T' e=>by rw[hh]at e;cases e;simpa using hlen)),?_⟩
 ·simp only[execOp,Sem.run_bind,hxe,Instr.storeAt,Instr.sureAddr,Sem.run_pure,Result.andThen_ok,storeVar,wF hi];rw[if_neg (by simp[hsz])];simp only[Result.andThen_ok,hst]
 ·rw[P0];exact hR.setRowR hb (by rw[hX];simp) _ _ hlen hh (fR.splice hl hyv off (by omega))
theorem zNl{P:Program}{o:Oper}{ev:Operand->AV}{s:xB}{os os':List lI}{la:LA}{ob:List Ob}(h:zJl P o.op ev s os=some (la,os',ob))(hob:yV P ob):s.fit la/\wN P o la/\la.ev=ev:=by
 have base:∀{la0:LA}{v:AV},V5 P o.op ev s=some la0->(∀G w u,V G w la0.v u->V G w v u)->s.fit (la0.set v)/\wN P o (la0.set v)/\(la0.set v).ev=ev:=by intro la0 v ha hv;obtain⟨h1,h2⟩:=fV ha;exact⟨w6 (kT ha),h1.set hv,h2⟩
 unfold zJl at h;cases hask:yAY o.op with|false=>rw[hask]at h;simp only[cond_false,Option.map_eq_some_iff]at h;obtain⟨la0,ha,he⟩:=h;cases he;exact base ha λ_ _ _=>V.tidy|true=>
  rw[hask]at h;simp only[cond_true]at h;split at h
  ·simp only[Option.map_eq_some_iff]at h;obtain⟨la0,ha,he⟩:=h;cases he;exact base ha λ_ _ _=>V.tidy
  ·rename_i a _;simp only[Option.map_eq_some_iff]at h;obtain⟨la0,ha,he⟩:=h;cases he;exact base ha hob.1
  ·rename_i b _;split at h
   ·rename_i la0 ha;split at h
    ·rename_i b0 hb;cases h;have hb':b0=b:=hob.1;subst hb';unfold LA.bit? at hb;split at hb;·rename_i b1 hv;cases hb;exact base ha λG w u hu=>by rw[hv]at hu;exact hu
     ·cases hb
    ·cases h
   ·cases h
  ·rename_i a _;cases h;have ha:=j9 (s:=s) hob.1;exact⟨kT ha,(fV ha).1,rfl⟩
  ·rename_i a _;cases h;obtain⟨a0,h1,h2⟩:=hob.1;subst h2;have ha:=j9 (s:=s) h1;exact⟨w6 (kT ha),wN.set (fV ha).1 (λG w u hu=>V.frz _ _ hu),rfl⟩
  ·rename_i a _;split at h
   ·rename_i t x y ok hop;split at h
    ·rename_i i hx;split at h
     ·rename_i X hX;cases h;have ha:V5 P o.op ev s=some {ev:=ev,rd:=[(i,X)],v:=a}:=by rw[hop,zJk,hx];exact hob.1 ev i s hX
      exact⟨kT ha,fV ha⟩
     ·cases h
    ·cases h
   ·rename_i args argTypes hop;split at h
    ·rename_i x t h1 h2;split at h
     ·rename_i i hx;split at h
      ·rename_i X hX;cases h;obtain⟨⟨es,c,kt,et,rfl,hut,rfl⟩,_⟩:=hob;obtain⟨dst,op,type,pos,after,guard⟩:=o;simp only at hop;subst hop;obtain⟨l1⟩:=args;obtain⟨l2⟩:=argTypes;simp only at h1 h2;subst h1 h2;refine⟨⟨λj Y h=>by simp only[List.mem_singleton,Prod.mk.injEq]at h;obtain⟨rfl,rfl⟩:=h;exact hX,λi X Y h=>by simp at h,λi X h=>by simp at h,λh=>by simp at h,λk h=>by simp at h,λh=>by simp at h,λi k v h=>by simp at h,λi k X Y h=>by simp at h⟩,zNo hut hx,rfl⟩
      ·cases h
     ·cases h
    ·cases h
   ·cases h
  ·rename_i Y _;split at h
   ·rename_i t x y z hop;split at h
    ·rename_i i hx;split at h
     ·rename_i X hX;cases h;have ha:V5 P o.op ev s=some {ev:=ev,v:=.val undef,wr:=[(i,X,Y)]}:=by rw[hop,zCs,hx];exact hob.1 ev i s hX
      exact⟨kT ha,fV ha⟩
     ·cases h
    ·cases h
   ·cases h
  ·rename_i v Y _;split at h
   ·rename_i x hop;split at h
    ·rename_i i hx;split at h
     ·rename_i X hX;cases h;have ha:V5 P o.op ev s=some (zXH ev i X v Y):=by rw[hop,zQy,hx];exact hob.1 ev i s hX
      exact⟨kT ha,fV ha⟩
     ·cases h
    ·cases h
   ·cases h
  ·rename_i cs n _;split at h
   ·rename_i t l c hop;cases h;obtain⟨dst,op,type,pos,after,guard⟩:=o;simp only at hop;subst hop;refine⟨⟨λi X h=>by simp at h,λi X Y h=>by simp at h,λi X h=>by simp only[List.mem_singleton,Prod.mk.injEq]at h;exact Nat.le_of_eq h.1.symm,λh=>by simp at h,λk h=>by simp at h,λh=>by simp at h,λi k v h=>by simp at h,λi k X Y h=>by simp at h⟩,zJo hob.1,rfl⟩
   ·rename_i t len parts hop;cases h;obtain⟨dst,op,type,pos,after,guard⟩:=o;simp only at hop;subst hop;refine⟨⟨λi X h=>by simp at h,λi X Y h=>by simp at h,λi X h=>by simp only[List.mem_singleton,Prod.mk.injEq]at h;exact Nat.le_of_eq h.1.symm,λh=>by simp at h,λk h=>by simp at h,λh=>by simp at h,λi k v h=>by simp at h,λi k X Y h=>by simp at h⟩,zJn hob.1,rfl⟩
   ·rename_i args argTypes hop;split at h
    ·rename_i x y t t2 h1 h2;split at h
     ·rename_i d m c sr es m2 z2 hdd hss;cases h;obtain⟨dst,op,type,pos,after,guard⟩:=o;simp only at hop;subst hop;obtain⟨l1⟩:=args;obtain⟨l2⟩:=argTypes;simp only at h1 h2;subst h1 h2;refine⟨⟨zLs hss,zLt hdd,λi X h=>by simp only[List.mem_singleton,Prod.mk.injEq]at h;exact Nat.le_of_eq h.1.symm,λh=>by simp at h,λk h=>by simp at h,λh=>by simp at h,λi k v h=>by simp at h,λi k X Y h=>by simp at h⟩,zLu hdd hss hob.1,rfl⟩
     ·cases h
    ·cases h
   ·cases h
  ·rename_i cs n _;split at h
   ·rename_i t len parts hop;cases h;obtain⟨dst,op,type,pos,after,guard⟩:=o;simp only at hop;subst hop;refine⟨⟨λi X h=>by simp at h,λi X Y h=>by simp at h,λi X h=>by simp only[List.mem_singleton,Prod.mk.injEq]at h;exact Nat.le_of_eq h.1.symm,λh=>by simp at h,λk h=>by simp at h,λh=>by simp at h,λi k v h=>by simp at h,λi k X Y h=>by simp at h⟩,V8 hob.1 (.inr rfl),rfl⟩
   ·cases h
  ·rename_i cs n _;split at h
   ·rename_i t len parts hop;cases h;obtain⟨dst,op,type,pos,after,guard⟩:=o;simp only at hop;subst hop;refine⟨⟨λi X h=>by simp at h,λi X Y h=>by simp at h,λi X h=>by simp only[List.mem_singleton,Prod.mk.injEq]at h;exact Nat.le_of_eq h.1.symm,λh=>by simp at h,λk h=>by simp at h,λh=>by simp at h,λi k v h=>by simp at h,λi k X Y h=>by simp at h⟩,V9 hob.1,rfl⟩
   ·rename_i args argTypes hop;split at h
    ·rename_i x y t t2 h1 h2;split at h
     ·rename_i i m mc z es m2 ow hx hy;split at h
      ·rename_i c0 hl;cases h;obtain⟨dst,op,type,pos,after,guard⟩:=o;simp only at hop;subst hop;obtain⟨l1⟩:=args;obtain⟨l2⟩:=argTypes;simp only at h1 h2;subst h1 h2;refine⟨⟨λi X h=>by simp at h,λi X Y h=>by simp only[List.mem_singleton,Prod.mk.injEq]at h;obtain⟨rfl,rfl,-⟩:=h;exact hl,λi X h=>by simp only[List.mem_singleton,Prod.mk.injEq]at h;exact Nat.le_of_eq h.1.symm,λh=>by simp at h,λk h=>by simp at h,λh=>by simp at h,λi k v h=>by simp at h,λi k X Y h=>by simp at h⟩,zPT hx hy hl hob.1,rfl⟩
      ·cases h
     ·cases h
    ·cases h
   ·cases h
  ·rename_i bs _;split at h
   ·rename_i st dt x hop;split at h
    ·rename_i i n c hx0;split at h
     ·rename_i cs hl;cases h;obtain⟨dst,op,type,pos,after,guard⟩:=o;simp only at hop;subst hop;exact⟨zJu hl,zJm hx0 hob.1,rfl⟩
     ·cases h
    ·cases h
   ·cases h
  ·rename_i cs n _;split at h
   ·rename_i args argTypes hop;split at h
    ·rename_i x y t t2 h1 h2;split at h
     ·rename_i d m c bs hdd hey;cases h;obtain⟨dst,op,type,pos,after,guard⟩:=o;simp only at hop;subst hop;obtain⟨l1⟩:=args;obtain⟨l2⟩:=argTypes;simp only at h1 h2;subst h1 h2;refine⟨⟨λi X h=>by simp at h,zLt hdd,λi X h=>by simp only[List.mem_singleton,Prod.mk.injEq]at h;exact Nat.le_of_eq h.1.symm,λh=>by simp at h,λk h=>by simp at h,λh=>by simp at h,λi k v h=>by simp at h,λi k X Y h=>by simp at h⟩,zPR hdd hey hob.1,rfl⟩
     ·cases h
    ·cases h
   ·cases h
  ·rename_i cs n _;split at h
   ·rename_i args argTypes hop;split at h
    ·rename_i x y t t2 h1 h2;split at h
     ·rename_i hx0;cases h;obtain⟨dst,op,type,pos,after,guard⟩:=o;simp only at hop;subst hop;obtain⟨l1⟩:=args;obtain⟨l2⟩:=argTypes;simp only at h1 h2;subst h1 h2;refine⟨⟨λi X h=>by simp at h,λi X Y h=>by simp at h,λi X h=>by simp only[List.mem_singleton,Prod.mk.injEq]at h;exact Nat.le_of_eq h.1.symm,λh=>by simp at h,λk h=>by simp at h,λh=>by simp at h,λi k v h=>by simp at h,λi k X Y h=>by simp at h⟩,zPY hx0 hob.1,rfl⟩
     ·cases h
    ·cases h
   ·cases h
  ·split at h
   ·rename_i args argTypes hop;split at h
    ·rename_i x y t t2 h1 h2;split at h
     ·rename_i d q1 m2 q2 hdd hss;cases h;obtain⟨⟨rfl,h0,e,ie,hut,hie⟩,_⟩:=hob;obtain⟨dst,op,type,pos,after,guard⟩:=o;simp only at hop;subst hop;obtain⟨l1⟩:=args;obtain⟨l2⟩:=argTypes;simp only at h1 h2;subst h1 h2;refine⟨⟨λi X h=>by simp at h,λi X Y h=>by simp at h,λi X h=>by simp at h,λh=>by simp at h,λk h=>by simp at h,λh=>by simp at h,λi k v h=>by simp at h,λi k X Y h=>by simp at h⟩,zNp hut hie hdd hss h0,rfl⟩
     ·cases h
    ·cases h
   ·cases h
  ·rename_i cs _;split at h
   ·rename_i args argTypes hop;split at h
    ·rename_i x y t t2 h1 h2;split at h
     ·rename_i i n c z hx;split at h
      ·rename_i c0 sr es n2 z2 hl hss;cases h;obtain⟨dst,op,type,pos,after,guard⟩:=o;simp only at hop;subst hop;obtain⟨l1⟩:=args;obtain⟨l2⟩:=argTypes;simp only at h1 h2;subst h1 h2;refine⟨⟨zLs hss,λi X Y h=>by simp only[List.mem_singleton,Prod.mk.injEq]at h;obtain⟨rfl,rfl,rfl⟩:=h;exact hl,λi X h=>by simp at h,λh=>by simp at h,λk h=>by simp at h,λh=>by simp at h,λi k v h=>by simp at h,λi k X Y h=>by simp at h⟩,zTU hx hss hob.1,rfl⟩
      ·cases h
     ·cases h
    ·cases h
   ·cases h
  ·split at h
   ·rename_i args argTypes hop;split at h
    ·rename_i x t h1 h2;split at h
     ·rename_i i off n c z hx;split at h
      ·rename_i c0 hl;cases h;obtain⟨⟨hlo,e,ie,zv,hut,hie,hz,hzs,hone⟩,_⟩:=hob;obtain⟨dst,op,type,pos,after,guard⟩:=o;simp only at hop;subst hop;obtain⟨l1⟩:=args;obtain⟨l2⟩:=argTypes;simp only at h1 h2;subst h1 h2;refine⟨⟨λi X h=>by simp at h,λi X Y h=>by simp only[List.mem_singleton,Prod.mk.injEq]at h;obtain⟨rfl,rfl,rfl⟩:=h;exact hl,λi X h=>by simp at h,λh=>by simp at h,λk h=>by simp at h,λh=>by simp at h,λi k v h=>by simp at h,λi k X Y h=>by simp at h⟩,zTV hut hie hz hzs hone hx hlo,rfl⟩
      ·cases h
     ·cases h
    ·cases h
   ·cases h
  ·split at h
   ·rename_i t x y z hop;split at h
    ·rename_i e i off n c sz k k' ht hx hy hz;split at h
     ·rename_i ie hi;cases h;obtain⟨dst,op,type,pos,after,guard⟩:=o;simp only at hop;subst hop;exact⟨⟨λi X h=>by simp at h,λi X Y h=>by simp at h,λi X h=>by simp at h,λh=>by simp at h,λk h=>by simp at h,λh=>by simp at h,λi k v h=>by simp at h,λi k X Y h=>by simp at h⟩,yAZ ht hi hx hy hz,rfl⟩
     ·cases h
    ·cases h
   ·cases h
  ·rename_i a _;split at h
   ·rename_i t x hop;split at h
    ·rename_i q i off hq hx;split at h
     ·rename_i cs hX;cases h;obtain⟨dst,op,type,pos,after,guard⟩:=o;simp only at hop;subst hop;refine⟨⟨λi X h=>by simp only[List.mem_singleton,Prod.mk.injEq]at h;obtain⟨rfl,rfl⟩:=h;exact hX,λi X Y h=>by simp at h,λi X h=>by simp at h,λh=>by simp at h,λk h=>by simp at h,λh=>by simp at h,λi k v h=>by simp at h,λi k X Y h=>by simp at h⟩,zJj hq hx hob.1,rfl⟩
     ·cases h
    ·cases h
   ·cases h
  ·split at h
   ·rename_i t x hop;split at h
    ·rename_i n i off hq hx;split at h
     ·rename_i cs hX;split at h
      ·rename_i r hr;cases h;obtain⟨dst,op,type,pos,after,guard⟩:=o;simp only at hop;subst hop;exact⟨zXJ hX hr,zFX hq hx,rfl⟩
      ·cases h
     ·cases h
    ·cases h
   ·cases h
  ·rename_i cs' _;split at h
   ·rename_i t x y hop;split at h
    ·rename_i ti i off hq hx;split at h
     ·rename_i cs hX;cases h;obtain⟨⟨h1,h2,h3,h4⟩,_⟩:=hob;obtain⟨dst,op,type,pos,after,guard⟩:=o;simp only at hop;subst hop;refine⟨⟨λi X h=>by simp at h,λi X Y h=>by simp only[List.mem_singleton,Prod.mk.injEq]at h;obtain⟨rfl,rfl,rfl⟩:=h;exact hX,λi X h=>by simp at h,λh=>by simp at h,λk h=>by simp at h,λh=>by simp at h,λi k v h=>by simp at h,λi k X Y h=>by simp at h⟩,zFY hq hx h1 h2 h3 h4,rfl⟩
     ·cases h
    ·cases h
   ·cases h
  ·rename_i es' n' _;split at h
   ·rename_i la0 ha;split at h
    ·rename_i cs len o hv;cases h;obtain⟨h1,h2⟩:=hob.1;subst h1 h2;exact base ha λG w u hu=>by rw[<-hv];exact V.tidy hu
    ·cases h
   ·cases h
  ·rename_i es' n' sz empty _;split at h
   ·rename_i args argTypes hop;split at h
    ·rename_i x y t t2 h1 h2;split at h
     ·rename_i es n o1 es2 n2 o2 hx hy;split at h
      ·rename_i la0 hla;cases h;have ha:V5 P o.op ev s=some la:=by rw[hop,j8 h1 h2,hx,hy];show mT P t t2 ev (.sl es n o1) (.sl es2 n2 o2) s=some la;rw[hob.1];exact hla
       exact⟨kT ha,fV ha⟩
      ·cases h
     ·rename_i es n o1 bs hx hy;split at h
      ·rename_i la0 hla;cases h;have ha:V5 P o.op ev s=some la:=by rw[hop,j8 h1 h2,hx,hy];show lQ P t t2 ev (.sl es n o1) bs s=some la;rw[hob.1];exact hla
       exact⟨kT ha,fV ha⟩
      ·cases h
     ·cases h
    ·cases h
   ·cases h
  ·cases h
theorem zTY{P:Program}{pr:FuncId->List AV->xB->Option LA}(hp:qI P pr){o:Oper}{ev:Operand->AV}{s:xB}{os os':List lI}{la:LA}{ob:List Ob}(h:zTX P pr o.op ev s os=some (la,os',ob))(hob:yV P ob):s.fit la/\wN P o la/\la.ev=ev:=by
 obtain⟨dst,op,type,pos,after,guard⟩:=o;have h':zTX P pr op ev s os=some (la,os',ob):=h;clear h;unfold zTX at h';split at h'
 ·rename_i g args argTypes;split at h';·rename_i f first caps ι H1 nst res b os1 hg;cases hf:fD P f with|false=>rw[hf]at h';cases h'|true=>
    rw[hf]at h';simp only[cond_true]at h';split at h';·rename_i la1 ob1 hx;cases h';obtain⟨la0,h1,h2,h3,h4⟩:=zQw hf hx hob;have h5:=h2 dst type pos after guard g args argTypes first caps ev hg rfl;rw[h4];exact⟨w6 h1,wN.set h5 (v:=la.v) h3,rfl⟩
    ·cases h'
  ·rename_i f first caps ι H1 nst res b os1 hg;cases hf:fD P f with|false=>rw[hf]at h';cases h'|true=>
    rw[hf]at h';simp only[cond_true]at h';split at h'
    ·rename_i la1 ob1 hx;cases h';obtain⟨la0,h1,h2,h3,h4⟩:=zCE hf hx hob;have h5:=h2 dst type pos after guard g args argTypes first caps ev hg rfl;rw[h4];exact⟨w6 h1,wN.set h5 (v:=la.v) h3,rfl⟩
    ·cases h'
  ·rename_i f first caps kp ι H1 nst res os1 hg;cases hf:(fD P f&&kp.all (λp=>Nat.blt p.1 ι.length))with|false=>rw[hf]at h';cases h'|true=>
    rw[hf]at h';simp only[cond_true]at h';rw[Bool.and_eq_true]at hf;split at h'
    ·rename_i la1 ob1 hx;cases h';obtain⟨la0,rfl,h1,h2⟩:=zNm hf.1 hf.2 hx hob.1 hob.2;exact⟨⟨h1.rd,h1.wr,h1.al,h1.lo,h1.use,h1.ns,h1.rc,h1.kp⟩,h2 dst type pos after guard g args argTypes first caps ev hg rfl,rfl⟩
    ·cases h'
  ·rename_i f first caps os1 hg;split at h'
   ·rename_i la0 hla;cases h';obtain⟨q1,q2⟩:=hp _ _ _ _ hla;exact⟨⟨q1.rd,q1.wr,q1.al,q1.lo,q1.use,q1.ns,q1.rc,q1.kp⟩,q2 dst type pos after guard g args argTypes first caps ev hg rfl,rfl⟩
   ·cases h'
  ·cases h'
 ·exact zNl h' hob
def zWZ(P:Program)(pr:FuncId->List AV->xB->Option LA)(ops:Array Oper)(env:List AV)(s:xB)(os:List lI)(o:Oper):Option (Option LA×List AV×xB×List lI×List Ob):=match aJ ops env o with
 |some false=>some (none,eset env o.dst (.val undef),s,os,[])|some true=>match zTX P pr o.op (aev env) s os with|some (la,os,ob)=>some (some la,eset env o.dst la.v,s.app la,os,ob)|none=>none
 |none=>none
def aD(P:Program)(pr:FuncId->List AV->xB->Option LA)(ops:Array Oper):List Oper->Nat->List AV->xB->List lI->Option (List (Nat×Option LA)×List AV×xB×List lI×List Ob)|[],_,env,s,os=>some ([],env,s,os,[])|o::l,i,env,s,os=>match zWZ P pr ops env s os o with
 |some (la,env1,s1,os1,ob1)=>match aD P pr ops l (i+1) env1 s1 os1 with|some (r,env2,s2,os2,ob2)=>some ((i,la)::r,env2,s2,os2,ob1++ob2)|none=>none
 |none=>none
theorem w7{P:Program}{pr:FuncId->List AV->xB->Option LA}(hp:qI P pr){ops:Array Oper}:∀(l:List Oper)(i:Nat)(env:List AV)(s:xB)(os:List lI)(r:List (Nat×Option LA))(env':List AV)(s':xB)(os':List lI)(ob:List Ob),(∀k o,l[k]?=some o->ops[i+k]?=some o)->aD P pr ops l i env s os=some (r,env',s',os',ob)->yV P ob->jQ s s'/\r.map (·.1)=List.range' i l.length/\∀(σ₀:vD)(b:Nat),s.On σ₀ b->(∀j,s.nx<=j->j<s'.nx->σ₀.H j=none)->s'.On σ₀ b/\jD P ops r ⟨env,xD σ₀ s⟩ ⟨env',xD σ₀ s'⟩
 |[],i,env,s,os,r,env',s',os',ob,_,h,_=>by simp only[aD,Option.some.injEq,Prod.mk.injEq]at h;obtain⟨rfl,rfl,rfl,rfl,rfl⟩:=h;exact⟨jQ.refl _,rfl,λσ₀ b ho _=>⟨ho,rfl⟩⟩|o::l,i,env,s,os,r,env',s',os',ob,hl,h,hob=>by
  simp only[aD]at h;split at h
  ·rename_i la env1 s1 os1 ob1 hst;split at h
   ·rename_i r' env2 s2 os2 ob2 hr;cases h;obtain⟨hob1,hob2⟩:=yV.append hob;have h0:ops[i]?=some o:=by have:=hl 0 o rfl;simpa using this
    have step:jQ s s1/\∀(σ₀:vD)(b:Nat),s.On σ₀ b->(∀j,s.nx<=j->j<s1.nx->σ₀.H j=none)->s1.On σ₀ b/\oX P ops i la ⟨env,xD σ₀ s⟩ ⟨env1,xD σ₀ s1⟩:=by
     unfold zWZ at hst;split at hst
     ·rename_i hw;cases hst;exact⟨jQ.refl _,λσ₀ b ho _=>⟨ho,o,h0,hw,rfl⟩⟩
     ·rename_i hw;split at hst
      ·rename_i la' os1' ob1' hla;cases hst;obtain⟨f1,f2,f3⟩:=zTY hp hla hob1;refine⟨jQ.app f1,λσ₀ b ho hfree=>⟨On.app f1 ho,o,h0,hw,f2,λx _=>by rw[f3],xB.can f1 ho hfree,?_⟩⟩;rw[zPK f1 ho]
      ·cases hst
     ·cases hst
    obtain⟨q1,q2,q3⟩:=w7 hp l (i+1) env1 s1 os1 r' _ _ _ _ (λk o e=>by have:=hl (k+1) o (by simpa using e);rw[<-this];congr 1;omega) hr hob2;refine⟨step.1.trans q1,by simp[List.range'_succ,q2],λσ₀ b ho hfree=>?_⟩;obtain⟨o1,a1⟩:=step.2 σ₀ b ho (λj h1 h2=>hfree j h1 (Nat.lt_of_lt_of_le h2 q1.nx));obtain⟨o2,a2⟩:=q3 σ₀ b o1 (λj h1 h2=>hfree j (Nat.le_trans step.1.nx h1) h2);exact⟨o2,_,a1,a2⟩
   ·cases h
  ·cases h
theorem zFZ{P:Program}{pr:FuncId->List AV->xB->Option LA}(hp:qI P pr)(hm:P.follows .mixedOrders=true){ops:Array Oper}{id:Nat}{draw:Bool}{env env':List AV}{s s':xB}{os os':List lI}{r:List (Nat×Option LA)}{ob:List Ob}{Q:AX->List AV->xB->Prop}(h:aD P pr ops ops.toList 0 env s os=some (r,env',s',os',ob))(hd:(!draw||(fZ ops&&V6 ops (zEr ops.toList []) r))=true)(hob:yV P ob)(hQ:Q .normal env' s'):Ev P (.region id ops draw) env s Q:=by
 intro ho;obtain⟨_,q2,q3⟩:=w7 hp ops.toList 0 env s os r _ _ _ _ (λk o e=>by simpa using e) h hob;obtain⟨o1,r1⟩:=q3 (uI 0) 0 ho (λ_ _ _=>rfl);have q2':r.map (·.1)=List.range ops.size:=by rw[q2,List.range_eq_range'];simp
 cases draw with|false=>exact Cw.region r1 q2' ⟨_,_,rfl,o1,hQ⟩|true=>simp only[Bool.not_true,Bool.false_or,Bool.and_eq_true]at hd;exact Cw.draw hm hd.1 hd.2 r1 q2' ⟨_,_,rfl,o1,hQ⟩
def reown(k sz:Nat):AV->Option AV
 |.sl es n .full=>match es,n with|[],0=>some (.sl [] 0 (.st k sz))|_,_=>none
 |.sl es n .nl=>some (.sl es n (.st k sz))|_=>none
def xB.more(s:xB):xB:={s with own:=s.ns::s.own,ns:=s.ns+1}
def vE:List (Nat×yL)->Nat->yL->List (Nat×yL)|[],_,_=>[]|p::l,i,X=>bif Nat.beq i p.1 then(p.1,X)::l else p::vE l i X
theorem pH:∀(l:List (Nat×yL))(i j:Nat)(X Y:yL),look l i=some Y->look (vE l i X) j=if j=i then some X else look l j|[],_,_,_,_,h=>by cases h|p::l,i,j,X,Y,h=>by simp only[look]at h;simp only[vE];cases hb:Nat.beq i p.1 with
 |true=>
  have:=Nat.eq_of_beq_eq_true hb;subst this;simp only[cond_true,look];by_cases e:j=p.1;·subst e;simp
  ·rw[if_neg e,oZ e];rfl|false=>
  rw[hb]at h;have ih:=pH l i j X Y h;simp only[cond_false,look];by_cases e:j=p.1
  ·subst e;have hne:p.1≠i:=by rintro rfl;simp at hb
   rw[if_neg hne];simp
  ·rw[oZ e];simp only[cond_false];exact ih
mutual def AV.mv(i j:Nat):AV->AV|.val v=>.val v|.agg cs=>.agg (AV.mvL i j cs)|.tup cs=>.tup (AV.mvL i j cs)|.sl es n o=>.sl es n o|.ip es=>.ip es|.mp k off=>.mp k off|.ms k off n c z=>.ms (bif Nat.beq k i then j else k) off n c z|.obj k=>.obj k|.clo f fs cs=>.clo f fs cs def AV.mvL(i j:Nat):List AV->List AV|[]=>[]|a::l=>AV.mv i j a::AV.mvL i j l end
mutual theorem V.mv{G G':Gh}{w w':World}{i j:Nat}(hE:vL G w G' w')(hj:(∀b,G.ρ i=some b->G'.ρ j=some b)/\(G.N i->G'.N j)):∀(a:AV)(u:Value),V G w a u->V G' w' (a.mv i j) u
 |.val v,u,hv=>by simpa only[V,AV.mv]using hv|.agg cs,u,hv=>by simp only[V,AV.mv]at hv⊢;obtain⟨vs,rfl,hl⟩:=hv;exact⟨vs,rfl,VL.mv hE hj cs vs hl⟩|.tup cs,u,hv=>by simp only[V,AV.mv]at hv⊢;obtain⟨vs,rfl,hl⟩:=hv;exact⟨vs,rfl,VL.mv hE hj cs vs hl⟩|.sl es n o,u,hv=>by simpa only[AV.mv]using V.mono hE _ _ hv|.ip es,u,hv=>by simpa only[AV.mv]using V.mono hE _ _ hv|.mp k off,u,hv=>by simpa only[AV.mv]using V.mono hE _ _ hv|.obj k,u,hv=>by simpa only[AV.mv]using V.mono hE _ _ hv|.clo f fs cs,u,hv=>by simpa only[AV.mv]using V.mono hE _ _ hv|.ms k off n c z,u,hv=>by simp only[AV.mv];cases hb:Nat.beq k i with|false=>exact V.mono hE _ _ hv|true=>
  have:=Nat.eq_of_beq_eq_true hb;subst this;simp only[V,cond_true]at hv⊢;rcases hv with⟨b,cap,h1,h2,o,h3,h4⟩|⟨h1,h2,h3⟩;·exact .inl ⟨b,cap,hj.1 b h1,h2,o,h3,h4.imp (λq=>⟨q.1,hE.room _ _ _ h1 q.2⟩) id⟩
  ·exact .inr ⟨h1,hj.2 h2,h3⟩theorem VL.mv{G G':Gh}{w w':World}{i j:Nat}(hE:vL G w G' w')(hj:(∀b,G.ρ i=some b->G'.ρ j=some b)/\(G.N i->G'.N j)):∀(as0:List AV)(us:List Value),VL G w as0 us->VL G' w' (AV.mvL i j as0) us
 |[],[],_=>by simp only[AV.mvL,VL]|a::as0,u::us,hv=>by simp only[VL,AV.mvL]at hv⊢;exact⟨V.mv hE hj a u hv.1,VL.mv hE hj as0 us hv.2⟩|[],_::_,hv=>by simp only[VL]at hv|_::_,[],hv=>by simp only[VL]at hv end
def yL.mv(i j:Nat):yL->yL|.cells cs=>.cells (AV.mvL i j cs)|.obj o=>.obj o|.row cs=>.row cs|.dead=>.dead
theorem yL.void_mv{i j:Nat}{X:yL}(h:X.void):(X.mv i j).void:=by cases X with|cells cs=>exact h.elim|obj o=>exact h.elim|row cs=>exact h|dead=>trivial
def P4(i j:Nat):List (Nat×yL)->List (Nat×yL)|[]=>[]|p::l=>(p.1,bif Nat.beq p.1 i then .dead else p.2.mv i j)::P4 i j l
theorem eD(i j:Nat):∀(l:List (Nat×yL))(k:Nat),look (P4 i j l) k=(look l k).map λX=>if k=i then .dead else X.mv i j|[],_=>rfl|p::l,k=>by simp only[P4,look];cases hb:Nat.beq k p.1 with|false=>simp only[cond_false];exact eD i j l k|true=>
 have:=Nat.eq_of_beq_eq_true hb;subst this;simp only[cond_true,Option.map_some];by_cases e:p.1=i;·rw[if_pos e,e];simp
 ·rw[if_neg e];have:Nat.beq p.1 i=false:=oZ e;rw[this];rfl
def xB.mv(s:xB)(i:Nat)(cs:List AV):xB:={s with H:=(s.nx,.row cs)::P4 i s.nx s.H,nx:=s.nx+1}
theorem yM.mv{G:Gh}{s:xB}{w:World}(ho:s.Ok)(h:yM G (xD (uI 0) s) w){i:Nat}{cs:List AV}(hX:Ab.look s.H i=some (.row cs)):∃G',vL G w G' w/\((∀b,G.ρ i=some b->G'.ρ s.nx=some b)/\(G.N i->G'.N s.nx))/\yM G' (xD (uI 0) (s.mv i cs)) w:=by
 have hX':(xD (uI 0) s).H i=some (.row cs):=by rw[wB];exact hX
 have hn:Ab.look s.H s.nx=none:=by cases hl:Ab.look s.H s.nx with|none=>rfl|some X=>exact absurd (ho.H _ _ hl) (Nat.lt_irrefl _)
 have hn':(xD (uI 0) s).H s.nx=none:=by rw[wB];exact hn
 have hnew:∃G',vL G w G' w/\((∀b,G.ρ i=some b->G'.ρ s.nx=some b)/\(G.N i->G'.N s.nx))/\(∀c,G'.ρ i=some c->G'.ρ s.nx=some c)/\(G'.N i->G'.N s.nx)/\yM G' ⟨up (up (xD (uI 0) s).H i .dead) s.nx (.row cs),(xD (uI 0) s).own,(xD (uI 0) s).ns⟩ w:=by cases hb:G.ρ i with
  |some b=>
   obtain⟨hF,hblk⟩:=h.blk i b _ hb hX';have hE0:vL G w (G.addρ s.nx b) w:=⟨λ_ _ e=>aZ (((h.dom s.nx).2.1 hn').1) e,λ_ _ e=>e,λ_ _ e=>e,λ_ _ _=>rfl,rfl,rfl,λ_ _ e=>.inl e,λ_ _ _ _ r=>r,λ_ e=>e⟩;have hZ:vZ (G.addρ s.nx b) w b (.row cs):=by obtain⟨vs,T,h1,h2⟩:=hblk;exact⟨vs,T,h1,h2.imp (VL.mono hE0 _)⟩
   obtain⟨q1,q2⟩:=h.renew hX' (by simp) hb hn' hZ;have hNi:¬G.N i:=h.ρN hb;refine⟨_,q1,⟨λc hc=>by cases hc;exact yR _ _ _,λe=>absurd e hNi⟩,λc hc=>?_,λe=>absurd e hNi,q2⟩;have:(G.addρ s.nx b).ρ i=some b:=hE0.ρ i b hb;rw[this]at hc;cases hc;exact yR _ _ _|none=>
   have hNi:G.N i:=((h.dom i).1 hb).resolve_right (by rw[hX'];simp);have hcs:=yL.void_row (h.Nvoid hNi hX');subst hcs;have hB:=h.bury hX';have hj:(⟨up (xD (uI 0) s).H i .dead,(xD (uI 0) s).own,(xD (uI 0) s).ns⟩:vD).H s.nx=none:=by show up _ i _ s.nx=none;rw[xO _ _ (λe=>by rw[e]at hn';rw[hX']at hn';cases hn')];exact hn'
   exact⟨_,vL.addN G w s.nx,⟨λc hc=>(by cases hc),λ_=>.inr rfl⟩,λc hc=>(by rw[show(G.addN s.nx).ρ i=G.ρ i from rfl,hb]at hc;cases hc),λ_=>.inr rfl,hB.nilrow hj⟩
 obtain⟨G',q1,hj,hjj,hjN,q2⟩:=hnew;refine⟨G',q1,hj,?_⟩;have hH:∀k,(xD (uI 0) (s.mv i cs)).H k=((⟨up (up (xD (uI 0) s).H i .dead) s.nx (.row cs),(xD (uI 0) s).own,(xD (uI 0) s).ns⟩:vD).H k).map λX=>if k=s.nx then X else X.mv i s.nx:=by
  intro k;rw[wB];show Ab.look ((s.nx,yL.row cs)::P4 i s.nx s.H) k=(up (up (xD (uI 0) s).H i .dead) s.nx (.row cs) k).map _;simp only[Ab.look];by_cases e:k=s.nx;·subst e;rw[yR];simp
  ·have hbq:Nat.beq k s.nx=false:=oZ e;rw[hbq,xO _ _ e];simp only[cond_false,if_neg e];rw[eD];by_cases e2:k=i;·subst e2;rw[yR,hX];simp[yL.mv]
   ·rw[xO _ _ e2,wB];simp only[if_neg e2]
 have hdd:∀k,(⟨up (up (xD (uI 0) s).H i .dead) s.nx (.row cs),(xD (uI 0) s).own,(xD (uI 0) s).ns⟩:vD).H k=some .dead->(xD (uI 0) (s.mv i cs)).H k=some .dead:=λk hk=>by rw[hH,hk];simp[yL.mv]
 refine⟨λk=>?_,?_,λk l c hk hl=>(q2.inj k l c hk hl).imp id (Or.imp (hdd k) (hdd l)),λk c X hk hX=>?_,q2.live,q2.τns,q2.own,q2.ownd,q2.below,q2.base⟩
 ·rw[hH];refine(q2.dom k).map λX hX=>?_;split;·exact hX
  ·exact yL.void_mv hX
 ·obtain⟨N,hN⟩:=q2.fin;exact⟨N,λk hk=>by rw[hH,hN k hk];rfl⟩
 ·rw[hH]at hX;cases hY:(⟨up (up (xD (uI 0) s).H i .dead) s.nx (.row cs),(xD (uI 0) s).own,(xD (uI 0) s).ns⟩:vD).H k with|none=>rw[hY]at hX;cases hX|some Y=>
   rw[hY]at hX;simp only[Option.map_some,Option.some.injEq]at hX;obtain⟨p1,p2⟩:=q2.blk k c Y hk hY;refine⟨p1,?_⟩;split at hX;·subst hX;exact p2
   ·subst hX;cases Y with|cells ds=>obtain⟨vs,T,h1,h2⟩:=p2;exact⟨vs,T,h1,h2.imp λus=>VL.mv (vL.refl _ _) ⟨hjj,hjN⟩ _ us⟩|obj o=>exact p2|row ds=>exact p2|dead=>exact p2
theorem yBz{s:xB}(h:s.Ok)(i:Nat)(cs:List AV):(s.mv i cs).Ok:=by refine⟨λk X hk=>?_,h.own,h.fr,Nat.zero_le _⟩;have hk':look ((s.nx,yL.row cs)::P4 i s.nx s.H) k=some X:=hk;show k<s.nx+1;simp only[look]at hk';cases hb:Nat.beq k s.nx with|true=>have:=Nat.eq_of_beq_eq_true hb;omega|false=>rw[hb]at hk';simp only[cond_false]at hk';rw[eD]at hk';cases hl:look s.H k with|none=>rw[hl]at hk';cases hk'|some Y=>have:=h.H k Y hl;omega
def restamp0(it:Option Nat×Nat×Nat)(env:List AV)(s:xB):Option (List AV×xB):=match it with
 |(some i,_,0)=>match look s.H i with|some (.row cs)=>some (AV.mvL i s.nx env,s.mv i cs)|_=>none
 |(none,t,sz)=>match env[t]? with
  |some a=>match reown s.ns sz a with|some a'=>some (env.set t a',s.more)|none=>none
  |none=>none
 |(some b,c,sz)=>match look s.H b with
  |some (.cells cs)=>match cs[c]? with
   |some a=>match reown s.ns sz a with|some a'=>some (env,{s.more with H:=vE s.H b (.cells (cs.set c a'))})|none=>none
   |none=>none
  |_=>none
def zNk:AV->Bool|.sl [] 0 .nl=>true|.sl [] 0 .full=>true|_=>false
def xB.nilrow(s:xB):xB:={s with H:=(s.nx,.row [])::s.H,nx:=s.nx+1}
def nilcell(it:Option Nat×Nat×Nat)(env:List AV)(s:xB):Option (List AV×xB):=match it with
 |(none,t,sz)=>match env[t]? with|some a=>bif zNk a then some (env.set t (.ms s.nx 0 0 0 (sz-4096)),s.nilrow)else none|none=>none
 |(some b,c,sz)=>match look s.nilrow.H b with
  |some (.cells cs)=>match cs[c]? with|some a=>bif zNk a then some (env,{s.nilrow with H:=vE s.nilrow.H b (.cells (cs.set c (.ms s.nx 0 0 0 (sz-4096))))})else none|none=>none
  |_=>none
def frzU:Nat->List AV->List AV|0,l=>l|_,[]=>[]|k+1,a::l=>a.frz::frzU k l
theorem VL.frzU{G:Gh}{w:World}:∀(k:Nat)(as0:List AV)(us:List Value),VL G w as0 us->VL G w (Ab.frzU k as0) us|0,_,_,h=>h|_+1,[],_,h=>h|k+1,a::l,us,h=>by cases us with|nil=>simp only[VL]at h|cons u us=>simp only[VL]at h;simp only[Ab.frzU,VL];exact⟨V.frz _ _ h.1,VL.frzU k l us h.2⟩
def retell(it:Option Nat×Nat×Nat)(env:List AV)(s:xB):Option (List AV×xB):=match it with
 |(some b,0,_)=>match look s.H b with|some (.row (x::cs))=>some (env,{s with H:=vE s.H b (.cells (x::cs))})|_=>none
 |(some b,1,_)=>match look s.H b with|some (.cells (x::cs))=>some (env,{s with H:=vE s.H b (.row (AV.frzL (x::cs)))})|_=>none
 |(some b,k+2,_)=>match look s.H b with|some (.cells (x::cs))=>some (env,{s with H:=vE s.H b (.row (frzU (k+2) (x::cs)))})|_=>none
 |_=>none
def restamp(it:Option Nat×Nat×Nat)(env:List AV)(s:xB):Option (List AV×xB):=bif Nat.ble 8192 it.2.2 then retell it env s else bif Nat.ble 4096 it.2.2 then nilcell it env s else restamp0 it env s
def restamps:List (Option Nat×Nat×Nat)->List AV->xB->Option (List AV×xB)|[],env,s=>some (env,s)|it::l,env,s=>match restamp it env s with|some (env',s')=>restamps l env' s'|none=>none
theorem V.reown{G:Gh}{w:World}{k sz:Nat}{a a':AV}{u:Value}(h:Ab.reown k sz a=some a')(hτ:∃q,G.τ k=some q)(hv:V G w a u):V G w a' u:=by
 unfold Ab.reown at h;split at h
 ·split at h
  ·cases h;simp only[V]at hv⊢;obtain⟨cap,hc,⟨_,_,q3,q4,_⟩|⟨b,off,q1,q2,q3⟩⟩:=hv;·exact⟨cap,hc,.inl ⟨trivial,trivial,q3,q4,hτ⟩⟩
   ·refine⟨cap,hc,.inr ⟨b,off,q1,q2,hτ,.inl ⟨rfl,q3⟩⟩⟩
  ·cases h
 ·cases h;simp only[V]at hv⊢;obtain⟨cap,hc,⟨q1,q2,q3,q4,_⟩|⟨b,off,q1,q2,q3⟩⟩:=hv;·exact⟨cap,hc,.inl ⟨q1,q2,q3,q4,hτ⟩⟩
  ·exact q3.elim
 ·cases h
theorem VL.set'{G:Gh}{w:World}:∀(as0:List AV)(us:List Value),VL G w as0 us->∀(i:Nat)(a a':AV),as0[i]?=some a->(∀u,V G w a u->V G w a' u)->VL G w (as0.set i a') us
 |[],[],_,i,a,a',h,_=>by simp at h|x::as0,y::us,h,i,a,a',ha,hq=>by simp only[VL]at h;cases i with|zero=>simp at ha;subst ha;simp only[List.set_cons_zero,VL];exact⟨hq _ h.1,h.2⟩|succ i=>simp at ha;simp only[List.set_cons_succ,VL];exact⟨h.1,VL.set' as0 us h.2 i a a' ha hq⟩
 |[],_::_,h,_,_,_,_,_=>by simp only[VL]at h|_::_,[],h,_,_,_,_,_=>by simp only[VL]at h
theorem vL.more{G:Gh}{s:xB}{w:World}(hR:yM G (xD (uI 0) s) w):vL G w (G.addτ s.ns (0,1,0)) w:=⟨λ_ _ h=>h,λk r h=>aZ (hR.τns s.ns (Nat.le_refl _)) h,λ_ _ h=>h,λ_ _ _=>rfl,rfl,rfl,λ_ _ h=>.inl h,λ_ _ _ _ r=>r,λ_ e=>e⟩
theorem yM.more{G:Gh}{s:xB}{w:World}(hR:yM G (xD (uI 0) s) w):yM (G.addτ s.ns (0,1,0)) (xD (uI 0) s.more) w:=by
 have hE:=vL.more hR;have hold:∀k,(xD (uI 0) s.more).own k=true->k=s.ns\/(k≠s.ns/\(xD (uI 0) s).own k=true/\(G.addτ s.ns (0,1,0)).τ k=G.τ k):=by
  intro k hk;by_cases e:k=s.ns;·exact .inl e
  ·refine .inr ⟨e,?_,xO _ _ e⟩;rw[rF]at hk⊢;simp only[xB.more,List.any_cons,Bool.or_eq_true]at hk;exact hk.resolve_left (λh=>e (Nat.eq_of_beq_eq_true h))
 have hnew:(G.addτ s.ns (0,1,0)).τ s.ns=some (0,1,0):=yR _ _ _;refine⟨hR.dom,hR.fin,hR.inj,λi b X hi hX=>?_,hR.live,λk hk=>?_,λk hk=>?_,λk k' b f t f' t' hk hk' h1 h2 l1 l2=>?_,hR.below,hR.base⟩
 ·obtain⟨q1,q2⟩:=hR.blk i b X hi hX;exact⟨q1,q2.mono hE rfl⟩
 ·have hk':s.ns+1<=k:=hk;show up G.τ s.ns _ k=none;rw[xO _ _ (by omega)];exact hR.τns k (show s.ns<=k by omega)
 ·rcases hold k hk with rfl|⟨e,h1,h2⟩;·exact⟨0,1,0,hnew,.inl (Nat.lt_succ_self _)⟩
  ·obtain⟨b,f,t,q1,q2⟩:=hR.own k h1;exact⟨b,f,t,h2.trans q1,q2⟩
 ·rcases hold k hk with rfl|⟨e,q1,q2⟩;·rw[hnew]at h1;cases h1;omega
  ·rcases hold k' hk' with rfl|⟨e',q3,q4⟩;·rw[hnew]at h2;cases h2;omega
   ·rw[q2]at h1;rw[q4]at h2;exact hR.ownd k k' b f t f' t' q1 q3 h1 h2 l1 l2
theorem zLk{s:xB}(h:s.Ok):s.more.Ok:=⟨h.H,λk hk=>by
 rcases List.mem_cons.1 hk with rfl|hk;·exact⟨Nat.zero_le _,Nat.lt_succ_self _⟩
 ·exact⟨Nat.zero_le _,Nat.lt_succ_of_lt (h.own k hk).2⟩,h.fr,Nat.zero_le _⟩
theorem lC.restamp0{it:Option Nat×Nat×Nat}{env env':List AV}{s s':xB}(h:Ab.restamp0 it env s=some (env',s')){G:Gh}{a:Act}{w:World}(ho:s.Ok)(hR:lC G ⟨env,xD (uI 0) s⟩ a w):∃G',vL G w G' w/\s'.Ok/\lC G' ⟨env',xD (uI 0) s'⟩ a w:=by
 by_cases hit:∃i c,it=(some i,c,0)
 ·obtain⟨i,c,rfl⟩:=hit;simp only[Ab.restamp0]at h;split at h
  ·rename_i cs hcs;cases h;obtain⟨G',q1,q2,q3⟩:=yM.mv ho hR.st hcs;exact⟨G',q1,yBz ho i cs,q3,VL.mv q1 q2 _ _ hR.env,hR.dfr⟩
  ·cases h
 have hE:=vL.more hR.st;have hM:=yM.more hR.st;have hτ:∃q,(G.addτ s.ns (0,1,0)).τ s.ns=some q:=⟨_,yR _ _ _⟩;have henv:=VL.mono hE _ _ hR.env;obtain⟨ob,c,sz⟩:=it;cases ob with
 |none=>
  simp only[Ab.restamp0]at h;split at h
  ·rename_i x hx;split at h
   ·rename_i x' hx';cases h;refine⟨_,hE,zLk ho,hM,?_,hR.dfr⟩;exact VL.set' _ _ henv c x x' hx λu hu=>V.reown hx' hτ hu
   ·cases h
  ·cases h|some b=>
  obtain⟨sz,rfl⟩:∃m,sz=m+1:=by cases sz with|zero=>exact(hit ⟨b,c,rfl⟩).elim|succ m=>exact⟨m,rfl⟩
  simp only[Ab.restamp0]at h;split at h
  ·rename_i cs hcs;split at h
   ·rename_i x hx;split at h
    ·rename_i x' hx';cases h;have hl:∀j,look (vE s.H b (.cells (cs.set c x'))) j=if j=b then some (.cells (cs.set c x'))else look s.H j:=λj=>pH _ _ _ _ _ hcs;have hdd:∀i,(xD (uI 0) s.more).H i=some .dead->(xD (uI 0) ⟨vE s.H b (.cells (cs.set c x')),s.more.nx,s.more.own,s.more.ns,s.more.dirty⟩).H i=some .dead:=by intro i hi;rw[wB]at hi⊢;have hi':look s.H i=some .dead:=hi;show look (vE s.H b (.cells (cs.set c x'))) i=_;rw[hl,if_neg (λe=>by subst e;rw[hcs]at hi';cases hi')];exact hi'
     refine⟨_,hE,⟨λi X hX=>?_,(zLk ho).own,ho.fr,Nat.zero_le _⟩,⟨λi=>?_,?_,λi j q hi hj=>(hM.inj i j q hi hj).imp id (Or.imp (hdd i) (hdd j)),λi q X hi hX=>?_,hM.live,hM.τns,hM.own,hM.ownd,hM.below,hM.base⟩,henv,hR.dfr⟩
     ·have hX':look (vE s.H b (.cells (cs.set c x'))) i=some X:=hX;rw[hl]at hX';by_cases e:i=b;·subst e;exact ho.H i _ hcs
      ·rw[if_neg e]at hX';exact ho.H i X hX'
     ·have hd:=hM.dom i;rw[wB]at hd⊢;have hd':iO _ _ (look s.H i):=hd;show iO _ _ (look (vE s.H b (.cells (cs.set c x'))) i);rw[hl];by_cases e:i=b
      ·subst e;rw[if_pos rfl];rw[hcs]at hd';exact⟨λq=>(hd'.1 q).imp id λq=>(by cases q),λq=>(by cases q),λq=>((hd'.2.2 q).2 _ rfl).elim⟩
      ·rw[if_neg e];exact hd'
     ·obtain⟨N,hN⟩:=hM.fin;refine⟨max N (b+1),λi hi=>?_⟩;have:=hN i (by omega);rw[wB]at this⊢;show look (vE s.H b (.cells (cs.set c x'))) i=none;rw[hl,if_neg (by omega)];exact this
     ·rw[wB]at hX;have hX':look (vE s.H b (.cells (cs.set c x'))) i=some X:=hX;rw[hl]at hX';by_cases e:i=b
      ·subst e;rw[if_pos rfl]at hX';cases hX';obtain⟨q1,vs,T,q2,q3⟩:=hM.blk i q _ hi (by rw[wB];exact hcs);exact⟨q1,vs,T,q2,q3.imp λus q3=>VL.set' _ _ q3 c x x' hx λu hu=>V.reown hx' hτ hu⟩
      ·rw[if_neg e]at hX';exact hM.blk i q X hi (by rw[wB];exact hX')
    ·cases h
   ·cases h
  ·cases h
theorem zNj{s:xB}(h:s.Ok):s.nilrow.Ok:=by refine⟨λk X hk=>?_,h.own,h.fr,Nat.zero_le _⟩;have hk':look ((s.nx,yL.row [])::s.H) k=some X:=hk;show k<s.nx+1;simp only[look]at hk';cases hb:Nat.beq k s.nx with|true=>have:=Nat.eq_of_beq_eq_true hb;omega|false=>rw[hb]at hk';exact Nat.lt_succ_of_lt (h.H k X hk')
theorem yM.nilled{G:Gh}{s:xB}{w:World}(ho:s.Ok)(h:yM G (xD (uI 0) s) w):yM (G.addN s.nx) (xD (uI 0) s.nilrow) w:=by
 have hn:(xD (uI 0) s).H s.nx=none:=by rw[wB];cases hl:Ab.look s.H s.nx with|none=>rfl|some X=>exact absurd (ho.H _ _ hl) (Nat.lt_irrefl _)
 have e:(xD (uI 0) s.nilrow)=⟨up (xD (uI 0) s).H s.nx (.row []),(xD (uI 0) s).own,(xD (uI 0) s).ns⟩:=by
  have hH:(xD (uI 0) s.nilrow).H=up (xD (uI 0) s).H s.nx (.row []):=by
   funext i;rw[wB];show Ab.look ((s.nx,yL.row [])::s.H) i=_;simp only[Ab.look];by_cases e:i=s.nx;·subst e;rw[yR];simp
   ·rw[xO _ _ e,wB,oZ e];rfl
  rw[<-hH];rfl
 rw[e];exact h.nilrow hn
theorem V.nilled{G:Gh}{w:World}{a:AV}{u:Value}{j sz:Nat}(h:zNk a=true)(hv:V G w a u)(hj:G.N j):V G w (.ms j 0 0 0 sz) u:=by
 have ha:a=.sl [] 0 .nl\/a=.sl [] 0 .full:=by
  unfold zNk at h;split at h;·exact .inl rfl
  ·exact .inr rfl
  ·cases h
 obtain⟨p,rfl⟩:=zCD ha hv;simp only[V];exact .inr ⟨(by trivial),hj,p,rfl⟩
theorem yM.reblk{G:Gh}{s:xB}{w:World}{b:Nat}{cs cs':List AV}(hM:yM G (xD (uI 0) s) w)(hcs:Ab.look s.H b=some (.cells cs))(h:∀us,VL G w cs us->VL G w cs' us):yM G (xD (uI 0) {s with H:=vE s.H b (.cells cs')}) w:=by
 have hl:∀j,Ab.look (vE s.H b (.cells cs')) j=if j=b then some (.cells cs')else Ab.look s.H j:=λj=>pH _ _ _ _ _ hcs;have hdd:∀i,(xD (uI 0) s).H i=some .dead->(xD (uI 0) {s with H:=vE s.H b (.cells cs')}).H i=some .dead:=by intro i hi;rw[wB]at hi⊢;show Ab.look (vE s.H b (.cells cs')) i=_;rw[hl,if_neg (λe=>by subst e;rw[hcs]at hi;cases hi)];exact hi
 refine⟨λi=>?_,?_,λi j q hi hj=>(hM.inj i j q hi hj).imp id (Or.imp (hdd i) (hdd j)),λi q X hi hX=>?_,hM.live,hM.τns,hM.own,hM.ownd,hM.below,hM.base⟩
 ·have hd:=hM.dom i;rw[wB]at hd⊢;show iO _ _ (Ab.look (vE s.H b (.cells cs')) i);rw[hl];by_cases e:i=b
  ·subst e;rw[if_pos rfl];rw[hcs]at hd;exact⟨λq=>(hd.1 q).imp id λq=>(by cases q),λq=>(by cases q),λq=>((hd.2.2 q).2 _ rfl).elim⟩
  ·rw[if_neg e];exact hd
 ·obtain⟨N,hN⟩:=hM.fin;refine⟨max N (b+1),λi hi=>?_⟩;have:=hN i (by omega);rw[wB]at this⊢;show Ab.look (vE s.H b (.cells cs')) i=none;rw[hl,if_neg (by omega)];exact this
 ·rw[wB]at hX;have hX':Ab.look (vE s.H b (.cells cs')) i=some X:=hX;rw[hl]at hX';by_cases e:i=b
  ·subst e;rw[if_pos rfl]at hX';cases hX';obtain⟨q1,vs,T,q2,q3⟩:=hM.blk i q _ hi (by rw[wB];exact hcs);exact⟨q1,vs,T,q2,q3.imp λus q3=>h us q3⟩
  ·rw[if_neg e]at hX';exact hM.blk i q X hi (by rw[wB];exact hX')
theorem lC.nilcell{it:Option Nat×Nat×Nat}{env env':List AV}{s s':xB}(h:Ab.nilcell it env s=some (env',s')){G:Gh}{a:Act}{w:World}(ho:s.Ok)(hR:lC G ⟨env,xD (uI 0) s⟩ a w):∃G',vL G w G' w/\s'.Ok/\lC G' ⟨env',xD (uI 0) s'⟩ a w:=by have hE:=vL.addN G w s.nx;have hM:=hR.st.nilled ho;have hN:(G.addN s.nx).N s.nx:=.inr rfl;have henv:=VL.mono hE _ _ hR.env;have ho':=zNj ho;obtain⟨ob,c,sz⟩:=it;cases ob with
 |none=>
  simp only[Ab.nilcell]at h;split at h
  ·rename_i x hx;cases hb:zNk x with|false=>rw[hb]at h;cases h|true=>rw[hb]at h;cases h;exact⟨_,hE,ho',hM,VL.set' _ _ henv c x _ hx λu hu=>V.nilled hb hu hN,hR.dfr⟩
  ·cases h|some b=>
  simp only[Ab.nilcell]at h;split at h
  ·rename_i cs hcs;split at h
   ·rename_i x hx;cases hb:zNk x with|false=>rw[hb]at h;cases h|true=>
    rw[hb]at h;cases h;have hl:∀j,look (vE s.nilrow.H b (.cells (cs.set c (.ms s.nx 0 0 0 (sz-4096))))) j=if j=b then some (.cells (cs.set c (.ms s.nx 0 0 0 (sz-4096))))else look s.nilrow.H j:=λj=>pH _ _ _ _ _ hcs;refine⟨_,hE,⟨λi X hX=>?_,ho'.own,ho'.fr,Nat.zero_le _⟩,hM.reblk hcs λus hu=>VL.set' _ _ hu c x _ hx λu hu=>V.nilled hb hu hN,henv,hR.dfr⟩;have hX':look (vE s.nilrow.H b (.cells (cs.set c (.ms s.nx 0 0 0 (sz-4096))))) i=some X:=hX;rw[hl]at hX';by_cases e:i=b;·subst e;exact ho'.H i _ hcs
    ·rw[if_neg e]at hX';exact ho'.H i X hX'
   ·cases h
  ·cases h
theorem yM.reblkX{G:Gh}{s:xB}{w:World}{b:Nat}{X Y:yL}(hM:yM G (xD (uI 0) s) w)(hcs:Ab.look s.H b=some X)(hd:X≠.dead)(h:∀c,vZ G w c X->vZ G w c Y)(hv:X.void->Y.void):yM G (xD (uI 0) {s with H:=vE s.H b Y}) w:=by
 have hl:∀j,Ab.look (vE s.H b Y) j=if j=b then some Y else Ab.look s.H j:=λj=>pH _ _ _ _ _ hcs;have hdd:∀i,(xD (uI 0) s).H i=some .dead->(xD (uI 0) {s with H:=vE s.H b Y}).H i=some .dead:=by intro i hi;rw[wB]at hi⊢;show Ab.look (vE s.H b Y) i=_;rw[hl,if_neg (λe=>by subst e;rw[hcs]at hi;cases hi;exact hd rfl)];exact hi
 refine⟨λi=>?_,?_,λi j q hi hj=>(hM.inj i j q hi hj).imp id (Or.imp (hdd i) (hdd j)),λi q Z hi hX=>?_,hM.live,hM.τns,hM.own,hM.ownd,hM.below,hM.base⟩
 ·have hd:=hM.dom i;rw[wB]at hd⊢;show iO _ _ (Ab.look (vE s.H b Y) i);rw[hl];by_cases e:i=b
  ·subst e;rw[if_pos rfl];rw[hcs]at hd;exact⟨λq=>(hd.1 q).imp id λq=>(by cases q),λq=>(by cases q),λq=>⟨(hd.2.2 q).1,λZ hZ=>by cases hZ;exact hv ((hd.2.2 q).2 _ rfl)⟩⟩
  ·rw[if_neg e];exact hd
 ·obtain⟨N,hN⟩:=hM.fin;refine⟨max N (b+1),λi hi=>?_⟩;have:=hN i (by omega);rw[wB]at this⊢;show Ab.look (vE s.H b Y) i=none;rw[hl,if_neg (by omega)];exact this
 ·rw[wB]at hX;have hX':Ab.look (vE s.H b Y) i=some Z:=hX;rw[hl]at hX';by_cases e:i=b
  ·subst e;rw[if_pos rfl]at hX';cases hX';obtain⟨q1,q2⟩:=hM.blk i q _ hi (by rw[wB];exact hcs);exact⟨q1,h q q2⟩
  ·rw[if_neg e]at hX';exact hM.blk i q Z hi (by rw[wB];exact hX')
theorem lC.retell{it:Option Nat×Nat×Nat}{env env':List AV}{s s':xB}(h:Ab.retell it env s=some (env',s')){G:Gh}{a:Act}{w:World}(ho:s.Ok)(hR:lC G ⟨env,xD (uI 0) s⟩ a w):∃G',vL G w G' w/\s'.Ok/\lC G' ⟨env',xD (uI 0) s'⟩ a w:=by
 have ok:∀(b:Nat)(X Y:yL),look s.H b=some X->({s with H:=vE s.H b Y}:xB).Ok:=λb X Y hb=>by
  refine⟨λi Z hZ=>?_,ho.own,ho.fr,Nat.zero_le _⟩;have hZ':look (vE s.H b Y) i=some Z:=hZ;rw[pH _ _ _ _ _ hb]at hZ';by_cases e:i=b;·subst e;exact ho.H i _ hb
  ·rw[if_neg e]at hZ';exact ho.H i Z hZ'
 unfold Ab.retell at h;split at h
 ·split at h
  ·rename_i x cs hb;cases h;exact⟨G,vL.refl G w,ok _ _ _ hb,yM.reblkX hR.st hb (by simp) (λ_ q=>q) (λq=>q.elim),hR.env,hR.dfr⟩
  ·cases h
 ·split at h
  ·rename_i x cs hb;cases h;exact⟨G,vL.refl G w,ok _ _ _ hb,yM.reblkX hR.st hb (by simp) (λc⟨vs,T,q1,q2⟩=>⟨vs,T,q1,q2.imp λus q=>VL.frz _ _ q⟩) (λq=>q.elim),hR.env,hR.dfr⟩
  ·cases h
 ·split at h
  ·rename_i x cs hb;cases h;exact⟨G,vL.refl G w,ok _ _ _ hb,yM.reblkX hR.st hb (by simp[frzU]) (λc⟨vs,T,q1,q2⟩=>⟨vs,T,q1,q2.imp λus q=>VL.frzU _ _ _ q⟩) (λq=>q.elim),hR.env,hR.dfr⟩
  ·cases h
 ·cases h
theorem lC.restamp{it:Option Nat×Nat×Nat}{env env':List AV}{s s':xB}(h:Ab.restamp it env s=some (env',s')){G:Gh}{a:Act}{w:World}(ho:s.Ok)(hR:lC G ⟨env,xD (uI 0) s⟩ a w):∃G',vL G w G' w/\s'.Ok/\lC G' ⟨env',xD (uI 0) s'⟩ a w:=by unfold Ab.restamp at h;cases hb0:Nat.ble 8192 it.2.2 with|true=>rw[hb0]at h;exact lC.retell h ho hR|false=>rw[hb0]at h;simp only[cond_false]at h;cases hb:Nat.ble 4096 it.2.2 with|true=>rw[hb]at h;exact lC.nilcell h ho hR|false=>rw[hb]at h;exact lC.restamp0 h ho hR
theorem lC.restamps:∀(l:List (Option Nat×Nat×Nat)){env env':List AV}{s s':xB},Ab.restamps l env s=some (env',s')->∀{G:Gh}{a:Act}{w:World},s.Ok->lC G ⟨env,xD (uI 0) s⟩ a w->∃G',vL G w G' w/\s'.Ok/\lC G' ⟨env',xD (uI 0) s'⟩ a w
 |[],env,env',s,s',h,G,a,w,ho,hR=>by simp only[Ab.restamps,Option.some.injEq,Prod.mk.injEq]at h;obtain⟨rfl,rfl⟩:=h;exact⟨G,vL.refl G w,ho,hR⟩|it::l,env,env',s,s',h,G,a,w,ho,hR=>by
  simp only[Ab.restamps]at h;split at h
  ·rename_i env1 s1 h1;obtain⟨G1,e1,o1,r1⟩:=lC.restamp h1 ho hR;obtain⟨G2,e2,o2,r2⟩:=lC.restamps l h o1 r1;exact⟨G2,e1.trans e2,o2,r2⟩
  ·cases h
inductive Fr where|seq(y:Code)|blk(i:Nat)|loop(c:Code)
def vF(P:Program)(na:Nb)(Q:AX->List AV->xB->Prop):List Fr->AX->List AV->xB->Prop|[]=>Q|.seq y::fs=>zPU (λe s=>Dv P na y e s (vF P na Q fs)) (vF P na Q fs)|.blk i::fs=>zEn i (vF P na Q fs)|.loop c::fs=>zPU (λe s=>Dl P na c e s (vF P na Q fs)) (vF P na Q fs)
inductive Md where|run(c:Code)|ret(x:AX)
inductive KR where|fin(x:AX)|head(c:Code)(fs:List Fr)
def pU(P:Program)(pr:FuncId->List AV->xB->Option LA):Nat->Md->List Fr->List AV->xB->List lI->Option (KR×List AV×xB×List lI×List Ob)
 |0,_,_,_,_,_=>none|n+1,.run c,fs,env,s,os=>match c with
  |.skip=>pU P pr n (.ret .normal) fs env s os|.label _=>pU P pr n (.ret .normal) fs env s os|.exit i=>pU P pr n (.ret (.exit i)) fs env s os|.ret=>pU P pr n (.ret .ret) fs env s os|.seq x y=>pU P pr n (.run x) (.seq y::fs) env s os|.cond c x y=>match aev env c with|.val (.bool b)=>pU P pr n (.run (bif b then x else y)) fs env s os|_=>none
  |.block i c=>pU P pr n (.run c) (.blk i::fs) env s os|.scope c=>pU P pr n (.run c) fs env s os|.loop c=>some (.head c fs,env,s,os,[])|.region _ ops draw=>match aD P pr ops ops.toList 0 env s os with
   |some (l,env1,s1,os1,o1)=>bif !draw||(fZ ops&&V6 ops (zEr ops.toList []) l)then match pU P pr n (.ret .normal) fs env1 s1 os1 with|some (k,env2,s2,os2,o2)=>some (k,env2,s2,os2,o1++o2)|none=>none else none|none=>none
  |_=>none
 |n+1,.ret x,fs,env,s,os=>match fs with
  |[]=>some (.fin x,env,s,os,[])|.seq y::fs=>match x with|.normal=>pU P pr n (.run y) fs env s os|x=>pU P pr n (.ret x) fs env s os
  |.blk i::fs=>match x with|.exit j=>pU P pr n (.ret (bif Nat.beq j i then .normal else .exit j)) fs env s os|x=>pU P pr n (.ret x) fs env s os
  |.loop c::fs=>match x with|.normal=>some (.head c fs,env,s,os,[])|x=>pU P pr n (.ret x) fs env s os
def zCF(P:Program)(na:Nb)(Q:AX->List AV->xB->Prop)(fs:List Fr)(env:List AV)(s:xB):Md->Prop|.run c=>Dv P na c env s (vF P na Q fs)|.ret x=>vF P na Q fs x env s
def KQ(P:Program)(na:Nb)(Q:AX->List AV->xB->Prop)(env:List AV)(s:xB):KR->Prop|.fin x=>Q x env s|.head c fs=>Dl P na c env s (vF P na Q fs)
theorem nM{P:Program}{pr:FuncId->List AV->xB->Option LA}(hp:qI P pr)(hm:P.follows .mixedOrders=true){na:Nb}{Q:AX->List AV->xB->Prop}:∀(n:Nat)(m:Md)(fs:List Fr)(env:List AV)(s:xB)(os:List lI)(k:KR)(env':List AV)(s':xB)(os':List lI)(ob:List Ob),pU P pr n m fs env s os=some (k,env',s',os',ob)->yV P ob->KQ P na Q env' s' k->zCF P na Q fs env s m:=by intro n;induction n with|zero=>intro m fs env s os k env' s' os' ob h;cases m<;>cases h|succ n ih=>intro m fs env s os k env' s' os' ob h hob hk;cases m with
 |ret x=>cases fs with|nil=>simp only[pU,Option.some.injEq,Prod.mk.injEq]at h;obtain⟨rfl,rfl,rfl,rfl,rfl⟩:=h;exact hk|cons f fs=>cases f with
   |seq y=>cases x with|normal=>exact ih (.run y) fs env s os k env' s' os' ob h hob hk|exit i=>exact ih (.ret (.exit i)) fs env s os k env' s' os' ob h hob hk|ret=>exact ih (.ret .ret) fs env s os k env' s' os' ob h hob hk
   |blk i=>cases x with|normal=>exact ih (.ret .normal) fs env s os k env' s' os' ob h hob hk|ret=>exact ih (.ret .ret) fs env s os k env' s' os' ob h hob hk|exit j=>have:=ih (.ret (bif Nat.beq j i then .normal else .exit j)) fs env s os k env' s' os' ob h hob hk;simp only[zCF,vF,zEn]at this⊢;cases hb:Nat.beq j i with|true=>rw[if_pos (Nat.eq_of_beq_eq_true hb)];rw[hb]at this;exact this|false=>rw[if_neg (λe=>by subst e;simp at hb)];rw[hb]at this;exact this
   |loop c=>cases x with|normal=>simp only[pU,Option.some.injEq,Prod.mk.injEq]at h;obtain⟨rfl,rfl,rfl,rfl,rfl⟩:=h;exact hk|exit i=>exact ih (.ret (.exit i)) fs env s os k env' s' os' ob h hob hk|ret=>exact ih (.ret .ret) fs env s os k env' s' os' ob h hob hk
 |run c=>cases c with
  |skip=>exact Dv.ofEv (Ev.skip (ih (.ret .normal) fs env s os k env' s' os' ob h hob hk))|label l=>exact Dv.ofEv (Ev.label (ih (.ret .normal) fs env s os k env' s' os' ob h hob hk))|exit i=>exact Dv.ofEv (Ev.exit (ih (.ret (.exit i)) fs env s os k env' s' os' ob h hob hk))|ret=>exact Dv.ofEv (Ev.ret (ih (.ret .ret) fs env s os k env' s' os' ob h hob hk))|seq y z=>exact Dv.seq (ih (.run y) (.seq z::fs) env s os k env' s' os' ob h hob hk)|cond o y z=>
   simp only[pU]at h;split at h;·rename_i t ht;have h1:=ih (.run (bif t then y else z)) fs env s os k env' s' os' ob h hob hk;exact Dv.cond ht (by cases t<;>exact h1)
   ·cases h|block i y=>exact Dv.block (ih (.run y) (.blk i::fs) env s os k env' s' os' ob h hob hk)|loop y=>simp only[pU,Option.some.injEq,Prod.mk.injEq]at h;obtain⟨rfl,rfl,rfl,rfl,rfl⟩:=h;exact Dv.loop hk|scope y=>exact Dv.scope (ih (.run y) fs env s os k env' s' os' ob h hob hk)|region id ops draw=>
   simp only[pU]at h;split at h;·rename_i l env1 s1 os1 o1 hr;cases hb:(!draw||(fZ ops&&V6 ops (zEr ops.toList []) l))with|false=>rw[hb]at h;cases h|true=>
    rw[hb]at h;simp only[cond_true]at h;split at h;·rename_i k2 env2 s2 os2 o2 hr2;cases h;obtain⟨q1,q2⟩:=yV.append hob;exact Dv.ofEv (zFZ hp hm hr hb q1 (ih (.ret .normal) fs env1 s1 os1 _ _ _ _ _ hr2 q2 hk))
    ·cases h
   ·cases h|rangeFunc=>cases h|goto=>cases h|refuse=>cases h
mutual def AV.dobs(keep:List Nat):AV->Option (List Ob)|.val _=>some []|.agg cs=>AV.dobsL keep cs|.tup cs=>AV.dobsL keep cs|.sl es _ _=>some [.data es]|.ip es=>some [.data es]|.mp i _=>bif qS keep i then some []else none|.ms i _ _ _ _=>bif qS keep i then some []else none|.obj i=>bif qS keep i then some []else none|.clo _ fs cs=>match AV.dobsL keep fs,AV.dobsL keep cs with|some a,some b=>some (a++b)|_,_=>none def AV.dobsL(keep:List Nat):List AV->Option (List Ob)|[]=>some []|a::l=>match AV.dobs keep a,AV.dobsL keep l with|some x,some y=>some (x++y)|_,_=>none end
mutual theorem AV.dobs_ok{P:Program}{keep:List Nat}:∀(a:AV)(ob:List Ob),a.dobs keep=some ob->yV P ob->a.fine (λi=>i∈keep)
 |.val _,_,_,_=>trivial|.agg cs,ob,h,hob=>AV.dobsL_ok cs ob h hob|.tup cs,ob,h,hob=>AV.dobsL_ok cs ob h hob|.sl es _ _,ob,h,hob=>by simp only[AV.dobs,Option.some.injEq]at h;subst h;exact hob.1|.ip es,ob,h,hob=>by simp only[AV.dobs,Option.some.injEq]at h;subst h;exact hob.1|.mp i _,ob,h,_=>by simp only[AV.dobs]at h;cases hm:qS keep i with|false=>rw[hm]at h;cases h|true=>exact uK.1 hm
 |.ms i _ _ _ _,ob,h,_=>by simp only[AV.dobs]at h;cases hm:qS keep i with|false=>rw[hm]at h;cases h|true=>exact uK.1 hm
 |.obj i,ob,h,_=>by simp only[AV.dobs]at h;cases hm:qS keep i with|false=>rw[hm]at h;cases h|true=>exact uK.1 hm
 |.clo _ fs cs,ob,h,hob=>by
  simp only[AV.dobs]at h;split at h
  ·rename_i a b h1 h2;cases h;obtain⟨q1,q2⟩:=yV.append hob;exact⟨AV.dobsL_ok fs a h1 q1,AV.dobsL_ok cs b h2 q2⟩
  ·cases h theorem AV.dobsL_ok{P:Program}{keep:List Nat}:∀(as0:List AV)(ob:List Ob),AV.dobsL keep as0=some ob->yV P ob->AV.fineL (λi=>i∈keep) as0
 |[],_,_,_=>trivial|a::as0,ob,h,hob=>by
  simp only[AV.dobsL]at h;split at h;·rename_i x y h1 h2;cases h;obtain⟨q1,q2⟩:=yV.append hob;exact⟨AV.dobs_ok a x h1 q1,AV.dobsL_ok as0 y h2 q2⟩
  ·cases h end
def yL.dobs(keep:List Nat):yL->Option (List Ob)|.cells cs=>AV.dobsL keep cs|.obj _=>some []|.row cs=>some [.data cs]|.dead=>some []
def dZ(keep:List Nat)(s:xB):List Nat->Option (List Ob)|[]=>some []|i::l=>match((look s.H i).getD (.cells [])).dobs keep,dZ keep s l with|some a,some b=>some (a++b)|_,_=>none
theorem A7{P:Program}{keep:List Nat}{s:xB}:∀(l:List Nat)(ob:List Ob),dZ keep s l=some ob->yV P ob->nV keep s l
 |[],_,_,_=>trivial|i::l,ob,h,hob=>by
  simp only[dZ]at h;split at h;·rename_i a b h1 h2;cases h;obtain⟨q1,q2⟩:=yV.append hob;refine⟨?_,A7 l b h2 q2⟩;cases hX:(look s.H i).getD (.cells [])with|cells cs=>rw[hX]at h1;exact AV.dobsL_ok cs a h1 q1|obj o=>trivial|row cs=>rw[hX]at h1;simp only[yL.dobs,Option.some.injEq]at h1;subst h1;exact q1.1|dead=>trivial
  ·cases h
def zEl(keep live:List Nat):List AV->Nat->Option (List Ob)|[],_=>some []|a::l,t=>match(bif qS live t then a.dobs keep else some []),zEl keep live l (t+1)with|some x,some y=>some (x++y)|_,_=>none
theorem zCG{P:Program}{keep live:List Nat}:∀(env:List AV)(t:Nat)(ob:List Ob),zEl keep live env t=some ob->yV P ob->iT keep live env t
 |[],_,_,_,_=>trivial|a::l,t,ob,h,hob=>by
  simp only[zEl]at h;split at h
  ·rename_i x y h1 h2;cases h;obtain⟨q1,q2⟩:=yV.append hob;refine⟨?_,zCG l (t+1) y h2 q2⟩;cases hm:qS live t with|true=>rw[hm]at h1;exact AV.dobs_ok a x h1 q1|false=>trivial
  ·cases h
theorem Dl.restamps{P:Program}{na:Nb}{c:Code}{env env':List AV}{s s':xB}{Q:AX->List AV->xB->Prop}{rs:List (Option Nat×Nat×Nat)}(hr:Ab.restamps rs env s=some (env',s'))(h:Dl P na c env' s' Q):Dl P na c env s Q:=by intro G0 W h0 G a w hE ho hR;obtain⟨G',e,o,r⟩:=lC.restamps rs hr ho hR;exact h G0 W h0 G' a w (hE.trans e) o r
def H9(P:Program)(pr:FuncId->List AV->xB->Option LA)(na n:Nat)(m:Md)(fs:List Fr)(env:List AV)(s:xB)(os:List lI)(rs:List (Option Nat×Nat×Nat))(keep ks live:List Nat)(j:Nat->Value):Option (Code×List Fr×List AV×xB×List Ob):=match pU P pr n m fs env s os with
 |some (.head c fs',env1,s1,[],ob)=>match restamps rs env1 s1 with
  |none=>none|some (env',s')=>bif reB na keep ks s' then match dZ keep s' keep,zEl keep live env' 0 with|some o1,some o2=>some (c,fs',reEnv keep ks live j env' 0,jS keep ks s',ob++(o1++o2))|_,_=>none else none
 |_=>none
theorem zGz{P:Program}{pr:FuncId->List AV->xB->Option LA}(hp:qI P pr)(hm:P.follows .mixedOrders=true){na:Nb}{Q:AX->List AV->xB->Prop}{n:Nat}{m:Md}{fs fs':List Fr}{env:List AV}{E:(Nat->Value)->List AV}{s S:xB}{os:List lI}{rs:List (Option Nat×Nat×Nat)}{keep ks live:List Nat}{c:Code}{ob:List Ob}(h:∀j,H9 P pr na.n n m fs env s os rs keep ks live j=some (c,fs',E j,S,ob))(hob:yV P ob)(hk:∀j,Dl P na c (E j) S (vF P na Q fs')):zCF P na Q fs env s m:=by
 have h0:=h λ_=>undef;unfold H9 at h0;split at h0
 ·rename_i c' fs1 env1 s1 ob' hr;split at h0;·cases h0
  rename_i env' s' hrs;cases hb:reB na.n keep ks s' with|false=>rw[hb]at h0;cases h0|true=>
   rw[hb]at h0;simp only[cond_true]at h0;split at h0
   ·rename_i o1 o2 h1 h2;simp only[Option.some.injEq,Prod.mk.injEq]at h0;obtain⟨rfl,rfl,_,rfl,rfl⟩:=h0;obtain⟨q1,q2⟩:=yV.append hob;obtain⟨q3,q4⟩:=yV.append q2;refine nM hp hm _ _ _ _ _ _ _ _ _ _ _ hr q1 ?_;refine Dl.restamps hrs ?_;refine Dl.re keep ks live hb (A7 _ _ h1 q3) (zCG _ _ _ h2 q4) λj=>?_;have hj:=h j;unfold H9 at hj;rw[hr]at hj;simp only[hrs,hb,cond_true,h1,h2,Option.some.injEq,Prod.mk.injEq]at hj;rw[hj.2.2.1];exact hk j
   ·cases h0
 ·cases h0
def sU(H:List (Nat×yL))(j:Nat):Nat->List yL|0=>[]|n+1=>(look H j).getD (.cells [])::sU H (j+1) n
theorem W0{H:List (Nat×yL)}:∀(n j i:Nat)(X:yL),(sU H j n)[i]?=some X->(∃Y,look H (j+i)=some Y)->look H (j+i)=some X|0,_,_,_,h,_=>by simp[sU]at h|n+1,j,i,X,h,⟨Y,hY⟩=>by cases i with|zero=>simp only[sU,List.getElem?_cons_zero,Option.some.injEq]at h;simp only[Nat.add_zero]at hY⊢;rw[hY]at h⊢;simpa using h|succ i=>simp only[sU,List.getElem?_cons_succ]at h;rw[show j+(i+1)=j+1+i by omega]at hY⊢;exact W0 n (j+1) i X h ⟨Y,hY⟩
def Own.nlB:Own->Bool|.nl=>true|.full=>true|_=>false
def AV.frzK:AV->AV|.sl es n o=>bif o.nlB then(match es with|[]=>.sl [] n o|es=>.sl es n .no)else .sl es n .no|a=>a.frz
theorem V.frzK{G:Gh}{w:World}{a:AV}{u:Value}(h:V G w a u):V G w a.frzK u:=by
 unfold AV.frzK;split;·rename_i es n o;cases o.nlB with|false=>exact V.frz (.sl es n o) _ h|true=>
  simp only[cond_true];split;·exact h
  ·exact V.frz (.sl es n o) _ h
 ·exact V.frz _ _ h
theorem VL.frzK{G:Gh}{w:World}:∀(as0:List AV)(us:List Value),VL G w as0 us->VL G w (as0.map AV.frzK) us|[],[],_=>by simp only[List.map_nil,VL]|a::as0,u::us,h=>by simp only[VL,List.map_cons]at h⊢;exact⟨V.frzK h.1,VL.frzK as0 us h.2⟩|[],_::_,h=>by simp only[VL]at h|_::_,[],h=>by simp only[VL]at h
def yL.fzB(k:Bool):yL->yL|.cells cs=>.cells (bif k then cs.map AV.frzK else AV.frzL cs)|.obj o=>.obj o|.row cs=>.row cs|.dead=>.dead
theorem vZ.frz{G:Gh}{w:World}{b:Nat}{X:yL}(h:vZ G w b X)(k:Bool):vZ G w b (X.fzB k):=by cases X with
 |cells cs=>obtain⟨vs,T,h1,h2⟩:=h;cases k with|true=>exact⟨vs,T,h1,h2.imp (VL.frzK _)⟩|false=>exact⟨vs,T,h1,h2.imp (VL.frz _)⟩
 |obj o=>exact h|row cs=>exact h|dead=>exact h
def I0(k:Bool):List (Nat×yL)->List (Nat×yL)|[]=>[]|p::l=>(p.1,p.2.fzB k)::I0 k l
theorem iX(k:Bool):∀(l:List (Nat×yL))(i:Nat),look (I0 k l) i=(look l i).map (yL.fzB k)|[],_=>rfl|p::l,i=>by simp only[I0,look];cases Nat.beq i p.1 with|true=>rfl|false=>simp only[cond_false];exact iX k l i
def zLj(k:Bool)(s:xB):xB:={s with H:=I0 k s.H}
theorem yM.frz{G:Gh}{s:xB}{w:World}(h:yM G (xD (uI 0) s) w)(k:Bool):yM G (xD (uI 0) (zLj k s)) w:=by
 have hH:∀i,(xD (uI 0) (zLj k s)).H i=((xD (uI 0) s).H i).map (yL.fzB k):=by intro i;rw[wB,wB];exact iX k s.H i
 have hdd:∀i,(xD (uI 0) s).H i=some .dead->(xD (uI 0) (zLj k s)).H i=some .dead:=λi hi=>by rw[hH,hi];rfl
 refine⟨λi=>?_,?_,λi j q hi hj=>(h.inj i j q hi hj).imp id (Or.imp (hdd i) (hdd j)),λi b X hi hX=>?_,h.live,h.τns,h.own,h.ownd,h.below,h.base⟩;·rw[hH];exact(h.dom i).map λX hX=>by cases X<;>first|exact hX|exact hX.elim|trivial
 ·obtain⟨N,hN⟩:=h.fin;exact⟨N,λi hi=>by rw[hH,hN i hi];rfl⟩
 ·rw[hH]at hX;cases hY:(xD (uI 0) s).H i with|none=>rw[hY]at hX;cases hX|some Y=>rw[hY]at hX;simp only[Option.map_some,Option.some.injEq]at hX;subst hX;obtain⟨q1,q2⟩:=h.blk i b Y hi hY;exact⟨q1,q2.frz k⟩
def frz1:AV->AV|.sl es n (.st k sz)=>.sl es n (.st k sz)|a=>a.frz
def frzT:AV->AV|.tup cs=>.tup (cs.map frz1)|a=>frz1 a
def frzN(keep:List Nat)(a:AV):AV:=match keep,a with|[],.sl es n o=>bif o.nlB then(match es with|[]=>.sl [] n .full|es=>frzT (.sl es n o))else frzT (.sl es n o)|_,a=>frzT a
theorem V.frz1{G:Gh}{w:World}{a:AV}{u:Value}(h:V G w a u):V G w (Ab.frz1 a) u:=by
 unfold Ab.frz1;split;·exact h
 ·exact V.frz _ _ h
theorem VL.frz1{G:Gh}{w:World}:∀(as0:List AV)(us:List Value),VL G w as0 us->VL G w (as0.map Ab.frz1) us|[],[],_=>by simp[VL]|a::as0,u::us,h=>by simp only[VL,List.map_cons]at h⊢;exact⟨V.frz1 h.1,VL.frz1 as0 us h.2⟩|[],_::_,h=>by simp only[VL]at h|_::_,[],h=>by simp only[VL]at h
theorem V.frzT{G:Gh}{w:World}{a:AV}{u:Value}(h:V G w a u):V G w (Ab.frzT a) u:=by
 unfold Ab.frzT;split
 ·simp only[V]at h⊢;obtain⟨vs,rfl,hl⟩:=h;exact⟨vs,rfl,VL.frz1 _ _ hl⟩
 ·exact V.frz1 h
theorem V.frzN{G:Gh}{w:World}{keep:List Nat}{a:AV}{u:Value}(h:V G w a u):V G w (Ab.frzN keep a) u:=by
 unfold Ab.frzN;split;·rename_i es n o;cases hb:o.nlB with|false=>exact V.frzT h|true=>
  simp only[cond_true];split
  ·simp only[V]at h⊢;obtain⟨cap,hc,⟨h1,h2,h3,h4,_⟩|⟨b,off,h1,h2,ho⟩⟩:=h;·exact⟨cap,hc,.inl ⟨h1,h2,h3,h4,trivial⟩⟩
   ·cases o with|nl=>exact ho.elim|full=>exact⟨cap,hc,.inr ⟨b,off,h1,h2,ho⟩⟩|no=>cases hb|nn=>cases hb|fr=>cases hb|z=>cases hb|st _ _=>cases hb
  ·exact V.frzT h
 ·exact V.frzT h
def Z4(P:Program)(pr:FuncId->List AV->xB->Option LA)(na:Nat)(fn:Func)(n:Nat)(m:Md)(fs:List Fr)(env:List AV)(s:xB)(os:List lI)(rs:List (Option Nat×Nat×Nat))(keep ks:List Nat)(own:Bool):Option (AV×List yL×List Ob):=match pU P pr n m fs env s os with
 |some (.fin x,env1,s1,[],ob)=>match x with|.exit _=>none|_=>match restamps rs env1 s1 with|none=>none|some (env',s')=>match j5 P (look s'.H) env' fn.results.toList with
  |some r=>bif reB na keep ks s' then match dZ keep s' keep,r.dobs keep with|some o1,some o2=>some (bif own then frzN keep (r.ren (tJ keep) (place ks))else(r.ren (tJ keep) (place ks)).frz,(sU (jS keep ks s').H 0 keep.length).map (yL.fzB own),ob++(o1++o2))|_,_=>none else none|none=>none
 |_=>none
def nB(P:Program)(na:Nb)(fn:Func)(res:AV)(H1:List yL)(nst:Nat):AX->List AV->xB->Prop:=λx env0 s0=>(x=.normal\/x=.ret)/\∃rs env s,restamps rs env0 s0=some (env,s)/\∃r keep ks,j5 P (look s.H) env fn.results.toList=some r/\reB na.n keep ks s=true/\nV keep s keep/\r.fine (λi=>i∈keep)/\(∀G w u,V G w (r.ren (tJ keep) (place ks)) u->V G w res u)/\(∃ow:Bool,H1=(sU (jS keep ks s).H 0 keep.length).map (yL.fzB ow))/\nst<=ks.length
theorem I1{P:Program}{pr:FuncId->List AV->xB->Option LA}(hp:qI P pr)(hm:P.follows .mixedOrders=true){na:Nb}{fn:Func}{n:Nat}{m:Md}{fs:List Fr}{env:List AV}{s:xB}{os:List lI}{rs:List (Option Nat×Nat×Nat)}{keep ks:List Nat}{own:Bool}{res:AV}{H1:List yL}{nst:Nat}{ob:List Ob}(h:Z4 P pr na.n fn n m fs env s os rs keep ks own=some (res,H1,ob))(hob:yV P ob)(hn:nst<=ks.length):zCF P na (nB P na fn res H1 nst) fs env s m:=by
 unfold Z4 at h;split at h
 ·rename_i x env1 s1 ob' hr;have key:(x=.normal\/x=.ret)/\∃env' s',restamps rs env1 s1=some (env',s')/\∃r,j5 P (look s'.H) env' fn.results.toList=some r/\(bif reB na.n keep ks s' then match dZ keep s' keep,r.dobs keep with|some o1,some o2=>some (bif own then frzN keep (r.ren (tJ keep) (place ks))else(r.ren (tJ keep) (place ks)).frz,(sU (jS keep ks s').H 0 keep.length).map (yL.fzB own),ob'++(o1++o2))|_,_=>none else none)=some (res,H1,ob):=by cases x with
   |exit i=>cases h|normal=>
    simp only at h;split at h;·cases h
    rename_i env' s' hrs;split at h;·rename_i r hr;exact⟨.inl rfl,env',s',hrs,r,hr,h⟩
    ·cases h|ret=>
    simp only at h;split at h;·cases h
    rename_i env' s' hrs;split at h;·rename_i r hr;exact⟨.inr rfl,env',s',hrs,r,hr,h⟩
    ·cases h
  obtain⟨hx,env',s',hrs,r,hres,h⟩:=key;cases hb:reB na.n keep ks s' with|false=>rw[hb]at h;cases h|true=>
   rw[hb]at h;simp only[cond_true]at h;split at h
   ·rename_i o1 o2 h1 h2;simp only[Option.some.injEq,Prod.mk.injEq]at h;obtain⟨e1,rfl,rfl⟩:=h;obtain⟨q1,q2⟩:=yV.append hob;obtain⟨q3,q4⟩:=yV.append q2;refine nM hp hm _ _ _ _ _ _ _ _ _ _ _ hr q1 ⟨hx,rs,env',s',hrs,r,keep,ks,hres,hb,A7 _ _ h1 q3,AV.dobs_ok _ _ h2 q4,λG w u hu=>?_,⟨own,rfl⟩,hn⟩;subst e1;cases own with|true=>exact V.frzN hu|false=>exact V.frz _ _ hu
   ·cases h
 ·cases h
theorem uS.body{P:Program}{f:FuncId}{fn:Func}{H0:List yL}{args:List AV}{res:AV}{H1:List yL}{nst:Nat}(hf:P.funcs[f]?=some fn)(hb:fn.body.isNone=false)(h:Dv P H0.length (tT fn) (args++List.replicate (fn.ntmps-args.length) (.val undef)) (A3 H0) (nB P H0.length fn res H1 nst)):uS P f H0 args res H1 nst:=by intro G0 W cargs hB hR hv;cases hb':fn.body with|none=>rw[hb']at hb;cases hb|some c=>
 have hbod:tT fn=c:=by simp[tT,hb']
 rw[hbod]at h;refine calls_of_wp hf hb' ?_;have hlen:=VL.length _ _ hv;have hR0:lC G0 ⟨args++List.replicate (fn.ntmps-args.length) (.val undef),xD (uI 0) (A3 H0)⟩ {tmps:=cargs++Array.replicate (fn.ntmps-cargs.size) undef,defers:=[]} W:=by
  refine⟨hR,?_,rfl⟩;have:cargs.size=args.length:=by rw[<-hlen];simp
  simp only[Array.toList_append,Array.toList_replicate,this];exact VL.append _ _ _ _ hv (VL.replicate _)
 have hok:(A3 H0).Ok:=by refine⟨λi X hX=>?_,λk hk=>by simp[A3]at hk,(λk h=>by cases h),Nat.zero_le _⟩;have hX':look (iU H0 0) i=some X:=hX;rw[iV]at hX';simp only[Nat.zero_le,if_true,Nat.sub_zero]at hX';exact(List.getElem?_eq_some_iff.1 hX').1
 refine wp_mono (h G0 W hB G0 _ W (vL.refl G0 W) hok hR0) ?_;rintro e a' w'⟨x,env1,s1,G₂,rfl,⟨hx,rs,env',s',hrs,r,keep,ks,hres,hreB,hfb,hfr,hle,⟨ow,hH1⟩,hnst⟩,hE2,hok2,hR2⟩;obtain⟨G₁,hE1,hok',hR'⟩:=lC.restamps rs hrs hok2 hR2;have hE:=hE2.trans hE1;have hres':j5 P (xD (uI 0) s').H env' fn.results.toList=some r:=by refine zNt (λi X hX=>?_) hres;rw[wB];exact hX
 obtain⟨u,hu,huv⟩:=zTQ (fn:=fn) hR' hres';obtain⟨G',h1,h2,h3,h4⟩:=zFQ hreB hfb hB.ρ hB.τ hE hR'.st;have hV:=hle _ _ _ (V.ren h4 r u hfr huv);have hend:a'.defers=[]/\∃v',(results fn a'.tmps).run P w'=.ok v' w'/\∃u G' s',Ending.returned v'=.returned u/\vL G0 W G' w'/\yM G' (xD (uI 0) s') w'/\V G' w' res u/\(∀i X,H1[i]?=some X->look s'.H i=some X)/\∀k,k<nst->s'.own.any (Nat.beq k)=true:=by
  refine⟨hR'.dfr,u,hu,u,G',zLj ow (jS keep ks s'),rfl,h1,h3.frz ow,hV,λi X hX=>?_,λk hk=>?_⟩
  ·rw[hH1,List.getElem?_map]at hX;cases hY:(sU (jS keep ks s').H 0 keep.length)[i]? with|none=>rw[hY]at hX;cases hX|some Y=>
   rw[hY]at hX;simp only[Option.map_some,Option.some.injEq]at hX;subst hX;show look (I0 ow (jS keep ks s').H) i=_;rw[iX];have:=W0 keep.length 0 i Y hY;simp only[Nat.zero_add]at this;rw[this];·rfl
   have hlt:i<keep.length:=by
    have:=(List.getElem?_eq_some_iff.1 hY).1;have hl:∀n j,(sU (jS keep ks s').H j n).length=n:=by intro n;induction n with|zero=>intro j;rfl|succ n ih=>intro j;simp[sU,ih]
    rwa[hl]at this
   show∃Y,look (mI s'.H keep ks keep 0) i=some Y;rw[kU];simp only[Nat.zero_le,if_true,Nat.sub_zero,List.getElem?_eq_getElem hlt,Option.map_some];exact⟨_,rfl⟩
  ·show(range' 0 ks.length).any (Nat.beq k)=true;rw[uK,lS];omega
 rcases hx with rfl|rfl;·exact hend
 ·exact hend
abbrev ai(x:Int):AV:=.val (.int .i64 x)
abbrev ab(b:Bool):AV:=.val (.bool b)
abbrev at'(s:ByteArray):AV:=.val (.string s)
abbrev xC(x:Int):Int:=IntKind.i64.wrap x
abbrev kM(a b:Int):Int:=if b>a then b else a
abbrev zXK(a b:Int):Int:=if b<a then b else a
def zC{α:Type}(c:α->List AV)(l:List α):List AV:=l.flatMap c
inductive Tm where|mk(k n:Int)(sub:List Tm)
instance:Inhabited Tm:=⟨.mk 0 0 []⟩
def Tm.k:Tm->Int|.mk k _ _=>k
def Tm.n:Tm->Int|.mk _ n _=>n
def Tm.sub:Tm->List Tm|.mk _ _ l=>l
mutual def zA:Tm->List AV|.mk k n l=>[ai k,ai n,.sl (jU l) l.length .no]def jU:List Tm->List AV|[]=>[]|t::l=>zA t++jU l end
theorem zGy:∀l:List Tm,jU l=zC zA l|[]=>rfl|t::l=>by simp only[jU,zGy l,zC,List.flatMap_cons]
def P5(t:Tm):List AV:=[ai t.k,ai t.n,.sl (zC zA t.sub) t.sub.length .no]
theorem xY(t:Tm):zA t=P5 t:=by cases t;simp only[zA,P5,Tm.k,Tm.n,Tm.sub,zGy]
def yZ(t:Tm):AV:=.agg (P5 t)
def zZ(x:Int):List AV:=[ai x]
abbrev U8:=Int
def P6(s:ByteArray):List AV:=[at' s]
structure yI where
 kind:Int
 name:ByteArray
 type:Tm
 body:Tm
 fam:Int
 place:Int
 pars:Int
 inds:Int
 level:Int
 cons:List Int
 fields:List Int
instance:Inhabited yI:=⟨⟨0,⟨#[]⟩,default,default,0,0,0,0,0,[],[]⟩⟩
def xA(e:yI):List AV:=[ai e.kind,at' e.name,ai e.type.k,ai e.type.n,.sl (zC zA e.type.sub) e.type.sub.length .no,ai e.body.k,ai e.body.n,.sl (zC zA e.body.sub) e.body.sub.length .no,ai e.fam,ai e.place,ai e.pars,ai e.inds,ai e.level,.sl (zC zZ e.cons) e.cons.length .no,.sl (zC zZ e.fields) e.fields.length .no]
def zXL(e:yI):AV:=.agg (xA e)
structure qJ where
 is:Bool
 around:List Tm
 at':List Tm
instance:Inhabited qJ:=⟨⟨false,[],[]⟩⟩
def A8(r:qJ):List AV:=[ab r.is,.sl (zC zA r.around) r.around.length .no,.sl (zC zA r.at') r.at'.length .no]
def yBy(r:qJ):AV:=.agg (A8 r)
structure tZ where
 args:List Tm
 inds:List Tm
 recs:List qJ
instance:Inhabited tZ:=⟨⟨[],[],[]⟩⟩
def pX(c:tZ):List AV:=[.sl (zC zA c.args) c.args.length .no,.sl (zC zA c.inds) c.inds.length .no,.sl (zC A8 c.recs) c.recs.length .no]
def zXM(c:tZ):AV:=.agg (pX c)
structure xK where
 l:List yI
 rl:List yI
 parts:List tZ
 args:List Int
 own:List Int
instance:Inhabited xK:=⟨⟨[],[],[],[],[]⟩⟩
structure Got where
 t:Tm
 left:Int
 did:Bool
 e:Int
instance:Inhabited Got:=⟨⟨default,0,false,0⟩⟩
structure yBx where
 D:Int
 Level:Int
 C:Int
instance:Inhabited yBx:=⟨⟨0,0,0⟩⟩
structure yDH where
 t:Tm
 long:Bool
instance:Inhabited yDH:=⟨⟨default,false⟩⟩
structure yH where
 a:List Tm
 b:List Tm
instance:Inhabited yH:=⟨⟨[],[]⟩⟩
structure vB{α:Type}(c:α->List AV)(sz:Nat):Prop where
 len:∀x,(c x).length=sz
 data:∀x,AV.DataL (c x)one:∀x,(c x).all AV.one=true
theorem sV:∀{a b:List AV},AV.DataL a->AV.DataL b->AV.DataL (a++b)|[],_,_,h=>h|_::_,_,⟨h1,h2⟩,h=>⟨h1,sV h2 h⟩
theorem vO{α:Type}{c:α->List AV}(h:∀x,AV.DataL (c x)):∀l:List α,AV.DataL (zC c l)|[]=>trivial|x::l=>by rw[zC,List.flatMap_cons];exact sV (h x) (vO h l)
theorem I2{α:Type}{c:α->List AV}(h:∀x,(c x).all AV.one=true):∀l:List α,(zC c l).all AV.one=true|[]=>rfl|x::l=>by rw[zC,List.flatMap_cons,List.all_append,h x];exact I2 h l
theorem vP{α:Type}{c:α->List AV}{sz:Nat}(h:∀x,(c x).length=sz):∀l:List α,(zC c l).length=l.length*sz|[]=>by simp[zC]|x::l=>by have:=vP h l;unfold zC at this⊢;rw[List.flatMap_cons,List.length_append,h x,this,List.length_cons,Nat.succ_mul];omega
theorem jV{α:Type}{c:α->List AV}{sz:Nat}(h:∀x,(c x).length=sz):∀(i:Nat)(l:List α),(zC c l).drop (i*sz)=zC c (l.drop i)|0,l=>by simp|i+1,[]=>by simp[zC]|i+1,x::l=>by have:=jV h i l;unfold zC at this⊢;rw[List.flatMap_cons,Nat.succ_mul,Nat.add_comm,<-List.drop_drop,List.drop_left' (h x),this,List.drop_succ_cons]
theorem lJ{α:Type}{c:α->List AV}{sz:Nat}(h:∀x,(c x).length=sz):∀(i:Nat)(l:List α),(zC c l).take (i*sz)=zC c (l.take i)|0,l=>by simp[zC]|i+1,[]=>by simp[zC]|i+1,x::l=>by have:=lJ h i l;unfold zC at this⊢;rw[List.take_succ_cons,List.flatMap_cons,List.flatMap_cons,Nat.succ_mul,Nat.add_comm,List.take_append,List.take_of_length_le (by rw[h x];omega),h x,Nat.add_sub_cancel_left,this]
theorem eE{α:Type}{c:α->List AV}(l m:List α):zC c l++zC c m=zC c (l++m):=by unfold zC;rw[List.flatMap_append]
mutual theorem zLi:∀t:Tm,AV.DataL (zA t)|.mk k n l=>by rw[zA];exact⟨trivial,trivial,⟨trivial,zGx l⟩,trivial⟩theorem zGx:∀l:List Tm,AV.DataL (jU l)|[]=>trivial|t::l=>by rw[jU];exact sV (zLi t) (zGx l)end
theorem uW:vB zA 3:=⟨λx=>by rw[xY];rfl,zLi,λx=>by rw[xY];rfl⟩
theorem lU:vB zZ 1:=⟨λ_=>rfl,λ_=>⟨trivial,trivial⟩,λ_=>rfl⟩
theorem zJi:vB P6 1:=⟨λ_=>rfl,λ_=>⟨trivial,trivial⟩,λ_=>rfl⟩
theorem dT(l:List Tm):AV.DataL (zC zA l):=vO uW.data l
theorem dI(l:List Int):AV.DataL (zC zZ l):=vO lU.data l
theorem zEk:vB xA 15:=⟨λ_=>rfl,λx=>⟨trivial,trivial,trivial,trivial,⟨trivial,dT _⟩,trivial,trivial,⟨trivial,dT _⟩,trivial,trivial,trivial,trivial,trivial,⟨trivial,dI _⟩,⟨trivial,dI _⟩,trivial⟩,λ_=>rfl⟩
theorem zEj:vB A8 3:=⟨λ_=>rfl,λ_=>⟨trivial,⟨trivial,dT _⟩,⟨trivial,dT _⟩,trivial⟩,λ_=>rfl⟩
theorem dR(l:List qJ):AV.DataL (zC A8 l):=vO zEj.data l
theorem zEi:vB pX 3:=⟨λ_=>rfl,λ_=>⟨⟨trivial,dT _⟩,⟨trivial,dT _⟩,⟨trivial,dR _⟩,trivial⟩,λ_=>rfl⟩
theorem dE(l:List yI):AV.DataL (zC xA l):=vO zEk.data l
theorem dC(l:List tZ):AV.DataL (zC pX l):=vO zEi.data l
def zS{α:Type}(l:List α)(i:Int):Option α:=if 0<=i then l[i.toNat]? else none
theorem lK{α:Type}{l:List α}{i:Int}{x:α}(h:zS l i=some x):0<=i/\i<l.length/\l[i.toNat]?=some x:=by
 unfold zS at h;split at h
 ·have:=(List.getElem?_eq_some_iff.1 h).1;exact⟨by assumption,by omega,h⟩
 ·cases h
theorem zEh{α:Type}{c:α->List AV}{sz:Nat}(hc:∀x,(c x).length=sz){l:List α}{i:Nat}{x:α}(h:l[i]?=some x):(zC c l).drop (i*sz)=c x++zC c (l.drop (i+1)):=by rw[jV hc];obtain⟨h1,h2⟩:=List.getElem?_eq_some_iff.1 h;rw[List.drop_eq_getElem_cons h1,zC,List.flatMap_cons,h2];rfl
theorem mP{P:Program}{α:Type}{c:α->List AV}{sz:Nat}(hc:vB c sz){t e:TypeId}{ie:TypeInfo}(ht:P.underlying t=some (.slice e))(hi:P.info? e=some ie)(hs:ie.size=sz){l:List α}{i:Int}{o:Own}{k:IntKind}{x:α}(h:zS l i=some x):xE P t (.sl (zC c l) l.length o) (.val (.int k i))=some (.ip (c x++zC c (l.drop (i.toNat+1)))):=by obtain⟨h0,h1,h2⟩:=lK h;subst hs;unfold xE;simp only[ht,hi];rw[if_pos ⟨h0,h1⟩,if_pos (by rw[vP hc.len];simp),zEh hc.len h2]
theorem zQv{P:Program}{t e n:Nat}{q:Bool×Nat}(ht:P.underlying t=some (.array n e))(hi:tsz P e=some q)(hq:q=(false,1)){l:List Int}{i:Int}{k:IntKind}{x:Int}(hl:l.length=n)(h:zS l i=some x):iP P t (.agg (zC zZ l)) (.val (.int k i))=some (ai x):=by obtain⟨h0,h1,h2⟩:=lK h;subst hq;unfold iP;simp only[ht,hi];rw[if_pos ⟨h0,by omega⟩,zEh lU.len h2];rfl
def mU{α:Type}(l:List α)(a b:Int):Option (List α):=if 0<=a/\a<=b/\b<=l.length then some ((l.drop a.toNat).take (b-a).toNat)else none
theorem i6{α:Type}{l r:List α}{a b:Int}(h:mU l a b=some r):0<=a/\a<=b/\b<=l.length/\r=(l.drop a.toNat).take (b-a).toNat:=by
 unfold mU at h;split at h;·cases h;rename_i q;exact⟨q.1,q.2.1,q.2.2,rfl⟩
 ·cases h
theorem i7{P:Program}{α:Type}{c:α->List AV}{sz:Nat}(hc:vB c sz){t e:TypeId}{ie:TypeInfo}(ht:P.underlying t=some (.slice e))(hi:P.info? e=some ie)(hs:ie.size=sz){l r:List α}{a b:Int}{lo hi':Option AV}(h:mU l a b=some r)(hlo:∀h,xZ h 0 lo=if 0<=a/\a<=h then some a.toNat else none)(hhi:xZ l.length l.length hi'=if 0<=b/\b<=l.length then some b.toNat else none):wY P t (.sl (zC c l) l.length .no) lo hi' none=some (.sl (zC c r) r.length .no):=by
 obtain⟨h0,h1,h2,rfl⟩:=i6 h;subst hs;have e1:((b-a).toNat)=b.toNat-a.toNat:=by omega
 have hcut:Own.cut .no a.toNat (b.toNat-a.toNat) (Nat.beq b.toNat l.length) false=.no:=by unfold Own.cut;simp
 unfold wY;simp only[ht,hi,amx,hhi];rw[if_pos ⟨by omega,h2⟩];simp only[hlo];rw[if_neg (by simp),if_pos ⟨h0,by omega⟩];simp only;rw[if_pos (by rw[vP hc.len];simp),jV hc.len,lJ hc.len,e1];have hl:((l.drop a.toNat).take (b.toNat-a.toNat)).length=b.toNat-a.toNat:=by simp;omega
 rw[hl,Bool.false_and,hcut]
theorem zEg{P:Program}{α:Type}{c:α->List AV}{sz:Nat}(hc:vB c sz){t e:TypeId}{ie:TypeInfo}(ht:P.underlying t=some (.slice e))(hi:P.info? e=some ie)(hs:ie.size=sz){l r:List α}{a:Int}{k:IntKind}(h:mU l a l.length=some r):wY P t (.sl (zC c l) l.length .no) (some (.val (.int k a))) none none=some (.sl (zC c r) r.length .no):=i7 hc ht hi hs h (λh=>rfl) (by simp[xZ])
theorem zJh{P:Program}{α:Type}{c:α->List AV}{sz:Nat}(hc:vB c sz){t e:TypeId}{ie:TypeInfo}(ht:P.underlying t=some (.slice e))(hi:P.info? e=some ie)(hs:ie.size=sz){l r:List α}{b:Int}{k:IntKind}(h:mU l 0 b=some r):wY P t (.sl (zC c l) l.length .no) none (some (.val (.int k b))) none=some (.sl (zC c r) r.length .no):=i7 hc ht hi hs h (λh=>by simp[xZ]) rfl
theorem W4{P:Program}{α:Type}{c:α->List AV}{sz:Nat}(hc:vB c sz){t e:TypeId}{ie:TypeInfo}(ht:P.underlying t=some (.slice e))(hi:P.info? e=some ie)(hs:ie.size=sz){l r:List α}{a b:Int}{lo hi':Option AV}{o:Own}(h:mU l a b=some r)(hlo:∀h,xZ h 0 lo=if 0<=a/\a<=h then some a.toNat else none)(hhi:xZ l.length l.length hi'=if 0<=b/\b<=l.length then some b.toNat else none):∃a0,wY P t (.sl (zC c l) l.length o) lo hi' none=some a0/\a0.frz=.sl (zC c r) r.length .no:=by
 obtain⟨h0,h1,h2,rfl⟩:=i6 h;subst hs;have e1:((b-a).toNat)=b.toNat-a.toNat:=by omega
 refine⟨.sl (zC c ((l.drop a.toNat).take (b-a).toNat)) ((l.drop a.toNat).take (b-a).toNat).length (o.cut a.toNat (b.toNat-a.toNat) (Nat.beq b.toNat l.length) false),?_,rfl⟩;unfold wY;simp only[ht,hi,amx,hhi];rw[if_pos ⟨by omega,h2⟩];simp only[hlo];rw[if_neg (by simp),if_pos ⟨h0,by omega⟩];simp only;rw[if_pos (by rw[vP hc.len];simp),jV hc.len,lJ hc.len,e1];have hl:((l.drop a.toNat).take (b.toNat-a.toNat)).length=b.toNat-a.toNat:=by simp;omega
 rw[hl,Bool.false_and]
theorem zCr{P:Program}{α:Type}{c:α->List AV}{sz:Nat}(hc:vB c sz){t e:TypeId}{ie:TypeInfo}(ht:P.underlying t=some (.slice e))(hi:P.info? e=some ie)(hs:ie.size=sz){l r:List α}{a:Int}{k:IntKind}{o:Own}(h:mU l a l.length=some r):∃a0,wY P t (.sl (zC c l) l.length o) (some (.val (.int k a))) none none=some a0/\a0.frz=.sl (zC c r) r.length .no:=W4 hc ht hi hs h (λh=>rfl) (by simp[xZ])
theorem zGw{P:Program}{α:Type}{c:α->List AV}{sz:Nat}(hc:vB c sz){t e:TypeId}{ie:TypeInfo}(ht:P.underlying t=some (.slice e))(hi:P.info? e=some ie)(hs:ie.size=sz){l r:List α}{b:Int}{k:IntKind}{o:Own}(h:mU l 0 b=some r):∃a0,wY P t (.sl (zC c l) l.length o) none (some (.val (.int k b))) none=some a0/\a0.frz=.sl (zC c r) r.length .no:=W4 hc ht hi hs h (λh=>by simp[xZ]) rfl
def yX{α:Type}(B:Nat)(l m:List α):Option (List α):=if(l.length+m.length)*B<=140737488355328 then some (l++m)else none
theorem pI{α:Type}{B:Nat}{l m r:List α}(h:yX B l m=some r):(l.length+m.length)*B<=140737488355328/\r=l++m:=by
 unfold yX at h;split at h;·cases h;exact⟨by assumption,rfl⟩
 ·cases h
theorem zGv{P:Program}{α:Type}{c:α->List AV}{sz:Nat}(hc:vB c sz){t e:TypeId}{ie:TypeInfo}{z:Value}(ht:P.underlying t=some (.slice e))(hi:P.info? e=some ie)(hs:ie.size=sz)(hz:ie.zero=some z)(hzs:z.cells.size=sz)(h1:1<=sz){B:Nat}(hb:ie.bytes=B)(hB:1<=B){l m r:List α}(h:yX B l m=some r){o o2:Own}{s:xB}{ev:Operand->AV}:mT P t t ev (.sl (zC c l) l.length o) (.sl (zC c m) m.length o2) s=bif Nat.beq m.length 0 then some {ev:=ev,v:=.sl (zC c l) l.length o}else match o with|.full=>some {ev:=ev,ns:=s.ns,new:=1,v:=.sl (zC c r) r.length (.st s.ns sz)}|.nl=>some {ev:=ev,ns:=s.ns,new:=1,v:=.sl (zC c r) r.length (.st s.ns sz)}|.st k sz'=>bif s.own.any (Nat.beq k)&&Nat.beq sz' sz then some {ev:=ev,use:=[k],ns:=s.ns,new:=1,v:=.sl (zC c r) r.length (.st s.ns sz)}else none|_=>none:=by
 obtain⟨h2,rfl⟩:=pI h;subst hs;subst hb;unfold mT;simp only[ht,hi,hz];have h3:l.length+m.length<=4611686018427387904:=by have:(l.length+m.length)*1<=(l.length+m.length)*ie.bytes:=Nat.mul_le_mul_left _ hB;omega
 have hcond:(Nat.beq t t&&Nat.beq (zC c l).length (l.length*ie.size)&&Nat.beq (zC c m).length (m.length*ie.size)&&Nat.ble 1 ie.size&&Nat.beq z.cells.size ie.size&&Nat.ble ((l.length+m.length)*ie.bytes) 140737488355328&&Nat.ble (l.length+m.length) 4611686018427387904&&(zC c m).all AV.one)=true:=by simp only[Bool.and_eq_true];exact⟨⟨⟨⟨⟨⟨⟨by simp,by rw[vP hc.len];simp⟩,by rw[vP hc.len];simp⟩,by simpa using h1⟩,by rw[hzs];simp⟩,by simpa using h2⟩,by simpa using h3⟩,I2 hc.one m⟩
 rw[hcond];simp only[cond_true,eE,List.length_append];cases o<;>rfl
theorem rX{P:Program}{α:Type}{c:α->List AV}{sz:Nat}(hc:vB c sz){t e:TypeId}{ie:TypeInfo}{z:Value}(ht:P.underlying t=some (.slice e))(hi:P.info? e=some ie)(hs:ie.size=sz)(hz:ie.zero=some z)(hzs:z.cells.size=sz)(h1:1<=sz){B:Nat}(hb:ie.bytes=B)(hB:1<=B){l m r:List α}(h:yX B l m=some r)(hm:m.length≠0):Ob.ok P (.app t t (zC c l) (zC c m) (zC c r) l.length m.length r.length sz false):=by intro ev s o o2;rw[zGv hc ht hi hs hz hzs h1 hb hB h];cases hn:Nat.beq m.length 0 with|true=>exact absurd (Nat.eq_of_beq_eq_true hn) hm|false=>cases o<;>rfl
theorem cA{P:Program}{α:Type}{c:α->List AV}{sz:Nat}(hc:vB c sz){t e:TypeId}{ie:TypeInfo}{z:Value}(ht:P.underlying t=some (.slice e))(hi:P.info? e=some ie)(hs:ie.size=sz)(hz:ie.zero=some z)(hzs:z.cells.size=sz)(h1:1<=sz){B:Nat}(hb:ie.bytes=B)(hB:1<=B){l m r:List α}(h:yX B l m=some r)(hm:m.length=0):Ob.ok P (.app t t (zC c l) (zC c m) (zC c r) l.length m.length r.length sz true):=by intro ev s o o2;rw[zGv hc ht hi hs hz hzs h1 hb hB h];obtain⟨_,rfl⟩:=pI h;rw[List.length_eq_zero_iff.1 hm,List.append_nil];rfl
theorem wS{α β:Type}{x:Option α}{f:α->Option β}{r:β}(h:(x>>=f)=some r):∃v,x=some v/\f v=some r:=by cases x with|none=>cases h|some v=>exact⟨v,rfl,h⟩
theorem ifT{α:Type}{b:Bool}{x y r:α}(hb:b=true)(h:(if b=true then x else y)=r):x=r:=by rwa[if_pos hb]at h
theorem ifF{α:Type}{b:Bool}{x y r:α}(hb:b=false)(h:(if b=true then x else y)=r):y=r:=by rw[hb,if_neg (by simp)]at h;exact h
theorem yV.nil{P:Program}:yV P []:=trivial
theorem yV.cons{P:Program}{o:Ob}{l:List Ob}(h:o.ok P)(k:yV P l):yV P (o::l):=⟨h,k⟩
theorem zLh{P:Program}{b b':Bool}(h:b=b'):Ob.ok P (.bit b b'):=h
theorem eF{P:Program}{f:FuncId}{H0:List yL}{args:List AV}{res:AV}{H1:List yL}{nst:Nat}(h:CT P f H0 args res H1 nst):Ob.ok P (.call f H0 args res H1 nst):=h
theorem i9{P:Program}{es:List AV}(h:AV.DataL es):Ob.ok P (.data es):=h
theorem uS.nilcase{P:Program}{f:FuncId}{H0 H1:List yL}{es:List AV}{n:Nat}{as0:List AV}{res:AV}{nst:Nat}(h0:es=[]->uS P f H0 (.sl es n .nl::as0) res H1 nst)(h1:uS P f H0 (.sl es n .nn::as0) res H1 nst):uS P f H0 (.sl es n .no::as0) res H1 nst:=by intro G0 W cargs hB hR hv;cases hc:cargs.toList with|nil=>rw[hc]at hv;simp only[VL]at hv|cons u us=>
 rw[hc]at hv;simp only[VL]at hv;obtain⟨hu,hus⟩:=hv;simp only[V]at hu;obtain⟨cap,hcap,⟨q1,q2,q3,q4,_⟩|⟨b,off,q1,q2,_⟩⟩:=hu;·cases hs:aB u with|none=>refine h0 q1 G0 W cargs hB hR ?_;rw[hc];simp only[VL];exact⟨by simp only[V];exact⟨cap,hcap,.inl ⟨q1,q2,q3,q4,hs⟩⟩,hus⟩|some a=>refine h1 G0 W cargs hB hR ?_;rw[hc];simp only[VL];exact⟨by simp only[V];exact⟨cap,hcap,.inl ⟨q1,q2,q3,q4,a,hs⟩⟩,hus⟩
 ·refine h1 G0 W cargs hB hR ?_;rw[hc];simp only[VL];exact⟨by simp only[V];exact⟨cap,hcap,.inr ⟨b,off,q1,q2,trivial⟩⟩,hus⟩
theorem I3{α:Type}{c:α->List AV}{sz:Nat}(hc:vB c sz)(h:0<sz){l:List α}(hl:zC c l=[]):l=[]:=by have:=vP hc.len l;rw[hl]at this;cases l with|nil=>rfl|cons x l=>simp only[List.length_nil,List.length_cons]at this;exact absurd this.symm (Nat.ne_of_gt (Nat.mul_pos (Nat.succ_pos _) h))
variable{P:Program}{pr:FuncId->List AV->xB->Option LA}(hp:qI P pr)(hm:P.follows .mixedOrders=true){na:Nb}{fn:Func}{f:FuncId}
include hp hm
theorem uS.toHead{H0 H1:List yL}{args:List AV}{res:AV}{nst:Nat}(hf:P.funcs[f]?=some fn)(hb:fn.body.isNone=false)(n:Nat)(os:List lI)(rs:List (Option Nat×Nat×Nat))(keep ks live:List Nat){c:Code}{fs':List Fr}{E:(Nat->Value)->List AV}{S:xB}{ob:List Ob}(h:∀j,H9 P pr H0.length n (.run (tT fn)) [] (args++List.replicate (fn.ntmps-args.length) (.val undef)) (A3 H0) os rs keep ks live j=some (c,fs',E j,S,ob))(hob:yV P ob)(hk:∀j,Dl P H0.length c (E j) S (vF P H0.length (nB P H0.length fn res H1 nst) fs')):uS P f H0 args res H1 nst:=uS.body hf hb (zGz (na:=(H0.length:Nb)) (m:=.run (tT fn)) (fs:=[]) hp hm h hob hk)
theorem uS.toFin{H0 H1:List yL}{args:List AV}{res:AV}{nst:Nat}(hf:P.funcs[f]?=some fn)(hb:fn.body.isNone=false)(n:Nat)(os:List lI)(rs:List (Option Nat×Nat×Nat))(keep ks:List Nat)(own:Bool){ob:List Ob}(h:Z4 P pr H0.length fn n (.run (tT fn)) [] (args++List.replicate (fn.ntmps-args.length) (.val undef)) (A3 H0) os rs keep ks own=some (res,H1,ob))(hob:yV P ob)(hn:nst<=ks.length):uS P f H0 args res H1 nst:=uS.body hf hb (I1 (na:=(H0.length:Nb)) (m:=.run (tT fn)) (fs:=[]) hp hm h hob hn)
theorem Dl.toHead{Q:AX->List AV->xB->Prop}{c c':Code}{fs fs':List Fr}{env:List AV}{s S:xB}(n:Nat)(os:List lI)(rs:List (Option Nat×Nat×Nat))(keep ks live:List Nat){E:(Nat->Value)->List AV}{ob:List Ob}(h:∀j,H9 P pr na.n n (.run c) (.loop c::fs) env s os rs keep ks live j=some (c',fs',E j,S,ob))(hob:yV P ob)(hk:∀j,Dl P na c' (E j) S (vF P na Q fs')):Dl P na c env s (vF P na Q fs):=Dl.step (zGz hp hm (Q:=Q) (m:=.run c) (fs:=.loop c::fs) h hob hk)
theorem Dl.toFin{c:Code}{fs:List Fr}{env:List AV}{s:xB}{res:AV}{H1:List yL}{nst:Nat}(n:Nat)(os:List lI)(rs:List (Option Nat×Nat×Nat))(keep ks:List Nat)(own:Bool){ob:List Ob}(h:Z4 P pr na.n fn n (.run c) (.loop c::fs) env s os rs keep ks own=some (res,H1,ob))(hob:yV P ob)(hn:nst<=ks.length):Dl P na c env s (vF P na (nB P na fn res H1 nst) fs):=Dl.step (I1 hp hm (m:=.run c) (fs:=.loop c::fs) h hob hn)
end Go.Ab
namespace Go.Ab
open Go Go.RowKit
theorem P7{P:Program}{ops:Array Oper}{Q:Exit->Act->World->Prop}{rest:List Nat}:∀(l:List (Nat×Option LA))(S S':ST),jD P ops l S S'->∀(G:Gh)(a:Act)(w:World),lC G S a w->(∀G' a' w',vL G w G' w'->lC G' S' a' w'->wpOps P ops Q rest a' w')->wpOps P ops Q (l.map (·.1)++rest) a w|[],S,S',h,G,a,w,hR,hQ=>by simp only[jD]at h;subst h;exact hQ G a w (vL.refl G w) hR|p::l,S,S',h,G,a,w,hR,hQ=>by obtain⟨S₁,h1,h2⟩:=h;rw[List.map_cons,List.cons_append,wpOps_cons];refine h1.wp hR λG' a' w' hE hR'=>?_;exact P7 l S₁ S' h2 G' a' w' hR' λG2 a2 w2 hE2 hR2=>hQ G2 a2 w2 (hE.trans hE2) hR2
theorem zNi{P:Program}{dst:Option Tmp}{type:TypeId}{pos:String}{after:Array Edge}{guard:Option (Nat×Bool)}{g:Operand}{args:Array Operand}{argTypes:Array TypeId}{f:FuncId}{fn:Func}{a:Act}{w:World}{K:Act->World->Prop}{Q:Exit->Act->World->Prop}(hg:a.eval g=.func (.func f) #[] #[])(hf:P.funcs[f]?=some fn)(hname:(fn.name=="runtime.NumGoroutine")=false)(hb:fn.body.isNone=false)(h:Calls P f (args.map a.eval) w λe w'=>∃u,e=.returned u/\K (a.put dst u) w'):Oper.wp P ⟨dst,.call {callee:=.value g,args:=args,argTypes:=argTypes},type,pos,after,guard⟩ a w K Q:=by
 have hrun:(execOp a.eval ⟨dst,.call {callee:=.value g,args:=args,argTypes:=argTypes},type,pos,after,guard⟩).run P w=.ok (.enter f (args.map a.eval)) w:=by
  simp only[execOp,resolve,hg,Deferred.ofValue,Sem.run_bind,Sem.run_pure,Result.andThen_ok,invoke,callFunc];have hname':¬fn.name="runtime.NumGoroutine":=by simpa using hname
  have hb':¬fn.body=none:=by intro e;rw[e]at hb;cases hb
  simp[program,Sem.run,hf,hname',hb']
 unfold Oper.wp;rw[hrun,Oper.upon_enter];refine h.mono λe w' he=>?_;obtain⟨u,rfl,hK⟩:=he;exact hK
theorem vY.cell{F:Nat->Prop}{w w':World}(h:vY F w w'){b o:Nat}(hb:F b):w'.cell? ⟨b,o,none⟩=w.cell? ⟨b,o,none⟩:=by simp only[World.cell?,h.block b hb]
def d7(keep:List Nat):List (Nat×yL)->List (Nat×yL)|[]=>[]|p::l=>bif qS keep p.1 then p::d7 keep l else d7 keep l
theorem iY{keep:List Nat}:∀(l:List (Nat×yL))(i:Nat),look (d7 keep l) i=if qS keep i=true then look l i else none|[],i=>by simp[d7,look]|p::l,i=>by simp only[d7];cases hb:qS keep p.1 with
 |true=>simp only[cond_true,look,iY l i];cases he:Nat.beq i p.1 with|true=>have:=Nat.eq_of_beq_eq_true he;subst this;simp only[cond_true,hb,if_true]|false=>simp only[cond_false]
 |false=>simp only[cond_false,look,iY l i];cases he:Nat.beq i p.1 with|true=>have:=Nat.eq_of_beq_eq_true he;subst this;simp[hb]|false=>simp only[cond_false]
def mK(keep:List Nat)(s:xB):xB:=⟨d7 keep s.H,s.nx,[],0,[]⟩
def yL.lit:yL->Prop|.cells cs=>∀(G G':Gh)(w w':World)(us:List Value),G'.F=G.F->(∀b o,G.F b->G.L b o->G'.L b o)->(∀b o,G.F b->w'.cell? ⟨b,o,none⟩=w.cell? ⟨b,o,none⟩)->VL G w cs us->VL G' w' cs us|_=>False
def zQu(G0 G:Gh)(keep:List Nat)(S:Nat->Nat->Prop):Gh:=⟨λi=>if qS keep i=true then G.ρ i else none,λ_=>none,λb o=>G0.L b o\/S b o,G0.w0,G0.F,λ_=>False⟩
theorem zXN{na:Nb}{G0 G:Gh}{W w w':World}{s:xB}{keep:List Nat}{S:Nat->Nat->Prop}{b:Nat}(hB:zCu na G0)(hn:na.n=0)(hE:vL G0 W G w)(hR:yM G (xD (uI 0) s) w)(hbF:¬G0.F b)(hbρ:∀i,G.ρ i≠some b)(hK:vY (λc=>c<w.heap.size/\c≠b) w w')(hlit:∀i X,qS keep i=true->look s.H i=some X->X.lit)(hS:∀c o,S c o->c=b/\∃v,w'.cell? ⟨c,o,none⟩=some v):vL G0 W (zQu G0 G keep S) w'/\yM (zQu G0 G keep S) (xD (uI 0) (mK keep s)) w':=by
 have hLlt:∀c o,G0.L c o->c<w.heap.size/\c≠b:=λc o e=>⟨hR.base c (by rw[hE.F];exact hB.LF c o e),λec=>hbF (ec▸hB.LF c o e)⟩;have hcell:∀c o,G0.L c o->w'.cell? ⟨c,o,none⟩=w.cell? ⟨c,o,none⟩:=λc o e=>hK.cell (hLlt c o e);have hH:∀i,(xD (uI 0) (mK keep s)).H i=if qS keep i=true then look s.H i else none:=λi=>by rw[wB];exact iY _ _
 refine⟨⟨λi c e=>?_,λk r e=>?_,λ_ _ e=>.inl e,λc o e=>(hcell c o e).trans (hE.cell c o e),rfl,rfl,λc o e=>e.imp id λq=>by rw[(hS c o q).1];exact hbF,λi b m e _=>(by rw[(hB.ρ i (by omega)).1]at e;cases e),λi e=>absurd e (hB.ρ i (by omega)).2⟩,⟨λi=>?_,?_,λi j c hi hj=>?_,λi c X hi hX=>?_,λc o e=>?_,λ_ _=>rfl,λk hk=>?_,λk k' c f t f' t' hk=>?_,?_,λk hk=>?_⟩⟩;·rw[(hB.ρ i (by omega)).1]at e;cases e
 ·rw[hB.τ k]at e;cases e
 ·rw[hH];show iO (if qS keep i=true then G.ρ i else none) False _;split
  ·rename_i hm;have hd:=hR.dom i;rw[wB]at hd;refine⟨λe=>.inr ?_,λe=>⟨(hd.2.1 e).1,id⟩,λe=>e.elim⟩;rcases hd.1 e with q|q;·cases hX:look s.H i with|none=>rfl|some X=>have hl:=hlit i X hm hX;have hv:=(hd.2.2 q).2 X hX;cases X with|cells cs=>exact hv.elim|obj o=>exact hl.elim|row cs=>exact hl.elim|dead=>exact hl.elim
   ·exact q
  ·exact⟨λ_=>.inr rfl,λ_=>⟨rfl,id⟩,λe=>e.elim⟩
 ·obtain⟨N,hN⟩:=hR.fin;refine⟨N,λi hi=>?_⟩;have:=hN i hi;rw[wB]at this;rw[hH];split;·exact this
  ·rfl
 ·have hi':(if qS keep i=true then G.ρ i else none)=some c:=hi;have hj':(if qS keep j=true then G.ρ j else none)=some c:=hj;split at hi'
  ·split at hj'
   ·rename_i h1 h2;have hno:∀t,qS keep t=true->(xD (uI 0) s).H t≠some .dead:=λt ht hd=>by rw[wB]at hd;exact hlit t _ ht hd
    rcases hR.inj i j c hi' hj' with q|q|q;·exact .inl q
    ·exact(hno i h1 q).elim
    ·exact(hno j h2 q).elim
   ·cases hj'
  ·cases hi'
 ·have hi':(if qS keep i=true then G.ρ i else none)=some c:=hi;split at hi';·rename_i hm;rw[hH,if_pos hm]at hX;obtain⟨q1,q2⟩:=hR.blk i c X hi' (by rw[wB];exact hX);refine⟨by rw[hE.F]at q1;exact q1,?_⟩;have hl:=hlit i X hm hX;cases X with
   |cells cs=>
    obtain⟨vs',T,q3,q4⟩:=q2;refine⟨vs',T,?_,q4.imp λus h=>hl G _ w w' us hE.F.symm (λb o h1 h2=>?_) (λb o h1=>?_) h⟩;·rw[hK.block c ⟨(Array.getElem?_eq_some_iff.1 q3).1,λe=>hbρ i (e▸hi')⟩];exact q3
    ·exact .inl ((hE.newL b o h2).resolve_right λh=>h (by rw[<-hE.F];exact h1))
    ·exact hK.cell ⟨hR.base b h1,λe=>hbF (by rw[<-hE.F];exact e▸h1)⟩|obj o=>exact hl.elim|row cs=>exact hl.elim|dead=>exact hl.elim
  ·cases hi'
 ·rcases e with e|e
  ·obtain⟨⟨v,hv⟩,q⟩:=hR.live c o (hE.L c o e);refine⟨⟨v,(hcell c o e).trans hv⟩,λi hi=>?_⟩;have hi':(if qS keep i=true then G.ρ i else none)=some c:=hi;split at hi';·exact q i hi'
   ·cases hi'
  ·obtain⟨rfl,hv⟩:=hS c o e;refine⟨hv,λi hi=>?_⟩;have hi':(if qS keep i=true then G.ρ i else none)=some c:=hi;split at hi';·exact hbρ i hi'
   ·cases hi'
 ·simp[rF,mK]at hk
 ·simp[rF,mK]at hk
 ·have:=hR.below;rw[hE.F,hE.w0]at this;exact this.trans (hK.mono λk hk=>⟨hR.base k (by rw[hE.F];exact hk),λe=>hbF (e▸hk)⟩)
 ·exact Nat.lt_of_lt_of_le (hR.base k (by rw[hE.F];exact hk)) hK.size
theorem zNh{keep:List Nat}{s:xB}(h:s.Ok):(mK keep s).Ok:=by
 refine⟨λi X hX=>?_,λk hk=>by simp[mK]at hk,(λk h=>by cases h),Nat.zero_le _⟩;have hX':look (d7 keep s.H) i=some X:=hX;rw[iY]at hX';split at hX';·exact h.H i X hX'
 ·cases hX'
def mutEnv(keep:List Nat)(j:Nat->Value):List AV->Nat->List AV|[],_=>[]|a::l,t=>(match a with|.val v=>.val v|.mp i off=>bif qS keep i then .mp i off else .val (j t)|_=>.val (j t))::mutEnv keep j l (t+1)
theorem VL.mutEnv{G0 G:Gh}{w w':World}{keep:List Nat}{S:Nat->Nat->Prop}(us0:List Value):∀(env:List AV)(us:List Value)(t:Nat),VL G w env us->(∀i,us0.getD (t+i) undef=us.getD i undef)->VL (zQu G0 G keep S) w' (Ab.mutEnv keep (λt=>us0.getD t undef) env t) us
 |[],[],_,_,_=>by simp[Ab.mutEnv,VL]|a::as0,u::us,t,hv,hu=>by
  simp only[VL]at hv;have h0:us0.getD t undef=u:=by have:=hu 0;simpa using this
  simp only[Ab.mutEnv,VL];refine⟨?_,VL.mutEnv us0 as0 us (t+1) hv.2 (λi=>?_)⟩
  ·have h1:=hv.1;split;·simpa only[V]using h1
   ·rename_i i off;cases hm:qS keep i with|true=>simp only[V,cond_true]at h1⊢;obtain⟨c,hc,rfl⟩:=h1;exact⟨c,by show(if qS keep i=true then G.ρ i else none)=_;rw[if_pos hm];exact hc,rfl⟩|false=>simp only[cond_false,V];exact h0.symm
   ·simp only[V];exact h0.symm
  ·have:=hu (i+1);rw[show t+1+i=t+(i+1)by omega,this];simp|[],_::_,_,h,_=>by simp only[VL]at h|_::_,[],_,h,_=>by simp only[VL]at h
theorem VL.put{G:Gh}{w:World}:∀(as0:List AV)(us:List Value),VL G w as0 us->∀(i:Nat)(a:AV),(∀u,us[i]?=some u->V G w a u)->VL G w (as0.set i a) us
 |[],[],_,i,a,_=>by simp[VL]|x::as0,y::us,h,i,a,hv=>by simp only[VL]at h;cases i with|zero=>simp only[List.set_cons_zero,VL];exact⟨hv y rfl,h.2⟩|succ i=>simp only[List.set_cons_succ,VL];exact⟨h.1,VL.put as0 us h.2 i a λu hu=>hv u (by simpa using hu)⟩
 |[],_::_,h,_,_,_=>by simp only[VL]at h|_::_,[],h,_,_,_=>by simp only[VL]at h
def vG:Code->Array Oper|.region _ ops _=>ops|_=>#[]
def I4:Code->Bool|.region _ _ false=>true|_=>false
def zXz:Code->Bool|.ret=>true|_=>false
def zNg:Option Oper->Option (Option Tmp×Operand)|some ⟨d,.move x,_,_,_,none⟩=>some (d,x)|some ⟨d,.assign x,_,_,_,none⟩=>some (d,x)|_=>none
def zEf:Option Oper->Option (Option Tmp×FuncId×Array Operand)|some ⟨d,.call {callee:=.value (.func f),args,argTypes:=_},_,_,_,none⟩=>some (d,f,args)|_=>none
section
variable{P:Program}{a:Act}{w:World}{Q:Exit->Act->World->Prop}
theorem zEe{c:Code}(hk:knd c=1)(h:(mJ c).wp P (Exit.then ((uR c).wp P Q) Q) a w):c.wp P Q a w:=by cases c<;>first|exact wp_seq h|cases hk
theorem A9{c:Code}(hk:I4 c=true){l:List Nat}(hl:List.range (vG c).size=l)(h:wpOps P (vG c) Q l a w):c.wp P Q a w:=by subst hl;cases c with
 |region id ops draw=>cases draw with|false=>exact wp_region h|true=>cases hk
 |_=>cases hk
theorem zTZ{c:Code}(hk:zXz c=true)(h:Q .ret a w):c.wp P Q a w:=by cases c<;>first|exact wp_ret h|cases hk
theorem I5{ops:Array Oper}{rest:List Nat}{i:Nat}{d:Option Tmp}{x:Operand}(hop:zNg ops[i]?=some (d,x))(h:wpOps P ops Q rest (a.put d (a.eval x)) w):wpOps P ops Q (i::rest) a w:=by
 rw[wpOps_cons];unfold wpOp;unfold zNg at hop;split at hop
 ·rename_i o e;cases hop;rw[e];simp only[Region.wanted,if_true];refine .inl ?_;unfold Oper.wp;simpa[execOp,Oper.upon]using h
 ·rename_i o e;cases hop;rw[e];simp only[Region.wanted,if_true];refine .inl ?_;unfold Oper.wp;simpa[execOp,Oper.upon]using h
 ·cases hop
theorem d8{ops:Array Oper}{rest:List Nat}{i:Nat}{d:Option Tmp}{args:Array Operand}{f:FuncId}{fn:Func}(hop:zEf ops[i]?=some (d,f,args))(hf:P.funcs[f]?=some fn)(hname:(fn.name=="runtime.NumGoroutine")=false)(hb:fn.body.isNone=false)(h:Calls P f (args.map a.eval) w λe w'=>∃u,e=.returned u/\wpOps P ops Q rest (a.put d u) w'):wpOps P ops Q (i::rest) a w:=by
 rw[wpOps_cons];unfold wpOp;unfold zEf at hop;split at hop;·rename_i e;cases hop;rw[e];simp only[Region.wanted,if_true];exact .inl (zNi (f:=f) (fn:=fn) rfl hf hname hb h)
 ·cases hop
end
def tells:List (Nat×AV)->List AV->List AV|[],env=>env|p::l,env=>tells l (env.set p.1 p.2)
theorem VL.tells{G:Gh}{w:World}:∀(l:List (Nat×AV))(as0:List AV)(us:List Value),VL G w as0 us->(∀p∈l,∀u,us[p.1]?=some u->V G w p.2 u)->VL G w (Ab.tells l as0) us|[],_,_,h,_=>h|p::l,as0,us,h,k=>VL.tells l _ us (VL.put as0 us h p.1 p.2 (k p List.mem_cons_self)) λq hq=>k q (List.mem_cons_of_mem _ hq)
theorem VL.getE{G:Gh}{w:World}{env:List AV}{us:List Value}(h:VL G w env us){t:Nat}{u:Value}(hu:us[t]?=some u):V G w (eget env t) u:=by
 have:=V.eget env us h t;have e:us.getD t undef=u:=by simp[List.getD,hu]
 rwa[e]at this
theorem Dv.mut{P:Program}{pr:FuncId->List AV->xB->Option LA}(hp:qI P pr){na:Nb}(hn:na.n=0){Q:AX->List AV->xB->Prop}{id:Nat}{ops:Array Oper}{env env1:List AV}{s s1 s3:xB}{os os2:List lI}{ob ob2:List Ob}(p:Nat)(keep:List Nat)(tell:List (Nat×AV))(res:AV){dst:Option Tmp}{tA:Tmp}{f:FuncId}{fn:Func}{E3:(Nat->Value)->List AV}(h1':(aD P pr ops (ops.toList.take p) 0 env s os).map Prod.snd=some (env1,s1,[],ob))(hob:yV P ob)(hop:zEf ops[p]?=some (dst,f,#[.tmp tA]))(hf:P.funcs[f]?=some fn)(hname:(fn.name=="runtime.NumGoroutine")=false)(hb:fn.body.isNone=false)(hlit:∀i X,qS keep i=true->look s1.H i=some X->X.lit)(hcall:∀G0 W,zCu na G0->∀G w,vL G0 W G w->yM G (xD (uI 0) s1) w->∀u,V G w (eget env1 tA) u->Calls P f #[u] w λe w'=>∃(v:Value)(b:Nat)(S:Nat->Nat->Prop),e=.returned v/\¬G.F b/\(∀i,G.ρ i≠some b)/\vY (λc=>c<w.heap.size/\c≠b) w w'/\(∀c o,S c o->c=b/\∃x,w'.cell? ⟨c,o,none⟩=some x)/\∀G',vL G0 W G' w'->vY G'.F G'.w0 w'->(∀c o,S c o->G'.L c o)->V G' w' res v/\∀q∈tell,∀u',V G w (eget env1 q.1) u'->V G' w' q.2 u')(h2':∀j,(aD P pr ops (ops.toList.drop (p+1)) (p+1) (eset (tells tell (mutEnv keep j env1 0)) dst res) (mK keep s1) os2).map Prod.snd=some (E3 j,s3,[],ob2))(hob2:yV P ob2)(hk:∀j,Q .normal (E3 j) s3):Dv P na (.region id ops false) env s Q:=by
 have mp:∀{x:Option (List (Nat×Option LA)×List AV×xB×List lI×List Ob)}{y},x.map Prod.snd=some y->∃r,x=some (r,y):=by intro x y h;simp only[Option.map_eq_some_iff]at h;obtain⟨⟨r,z⟩,h1,rfl⟩:=h;exact⟨r,h1⟩
 obtain⟨r,h1⟩:=mp h1';intro G0 W hB G a w hE hok hR;have hlt:p<ops.size:=by
  rcases Nat.lt_or_ge p ops.size with h|h;·exact h
  ·rw[Array.getElem?_eq_none h]at hop;cases hop
 obtain⟨_,q2,q3⟩:=w7 hp (ops.toList.take p) 0 env s os r _ _ _ _ (λk o e=>by
  rw[List.getElem?_take]at e;split at e;·simpa using e
  ·cases e) h1 hob;obtain⟨o1,r1⟩:=q3 (uI 0) 0 hok (λ_ _ _=>rfl);refine wp_region ?_;have hr:List.range ops.size=r.map (·.1)++p::List.range' (p+1) (ops.size-(p+1)):=by
  rw[q2,List.range_eq_range'];have hl:(ops.toList.take p).length=p:=by simp;omega
  rw[hl,show p::List.range' (p+1) (ops.size-(p+1))=List.range' p (ops.size-p)by rw[show ops.size-p=(ops.size-(p+1))+1 by omega,List.range'_succ]];have:=List.range'_append (s:=0) (m:=p) (n:=ops.size-p) (step:=1);simp only[Nat.one_mul,Nat.zero_add]at this;rw[this];congr 1;omega
 rw[hr];refine P7 r _ _ r1 G a w hR λG1 a1 w1 hE1 hR1=>?_;have hEE:=hE.trans hE1;have hu:V G1 w1 (eget env1 tA) (a1.eval (.tmp tA)):=by have:=V.aev hR1.env (.tmp tA);simpa[aev]using this
 refine d8 hop hf hname hb ?_;rw[show Array.map a1.eval #[Operand.tmp tA]=#[a1.eval (Operand.tmp tA)]by simp];refine(hcall G0 W hB G1 w1 hEE hR1.st _ hu).mono ?_;rintro e w2⟨v,b,S,rfl,hbF,hbρ,hK,hS,hV⟩;refine⟨v,rfl,?_⟩;obtain⟨hE2,hR2⟩:=zXN (keep:=keep) hB hn hEE hR1.st (by rw[<-hEE.F];exact hbF) hbρ hK hlit hS;obtain⟨hv,ht⟩:=hV _ hE2 hR2.below (λc o h=>.inr h);have henv:VL (zQu G0 G1 keep S) w2 (eset (tells tell (mutEnv keep (λt=>a1.tmps.toList.getD t undef) env1 0)) dst res) (a1.put dst v).tmps.toList:=by refine VL.eset ?_ dst hv;refine VL.tells tell _ _ (VL.mutEnv _ env1 _ 0 hR1.env (λi=>by rw[Nat.zero_add])) λq hq u' hu'=>ht q hq u' (hR1.env.getE hu')
 have hR3:lC (zQu G0 G1 keep S) ⟨eset (tells tell (mutEnv keep (λt=>a1.tmps.toList.getD t undef) env1 0)) dst res,xD (uI 0) (mK keep s1)⟩ (a1.put dst v) w2:=⟨hR2,henv,by rw[zEu];exact hR1.dfr⟩;have hok2:=zNh (keep:=keep) o1;obtain⟨r2,h2⟩:=mp (h2' λt=>a1.tmps.toList.getD t undef);obtain⟨_,q5,q6⟩:=w7 hp (ops.toList.drop (p+1)) (p+1) _ _ os2 r2 _ _ _ _ (λk o e=>by rw[List.getElem?_drop]at e;simpa using e) h2 hob2;obtain⟨o3,r3⟩:=q6 (uI 0) 0 hok2 (λ_ _ _=>rfl);have e5:List.range' (p+1) (ops.size-(p+1))=r2.map (·.1)++[]:=by rw[q5,List.append_nil];simp
 rw[e5];refine P7 r2 _ _ r3 _ _ w2 hR3 λG4 a4 w4 hE4 hR4=>?_;exact⟨.normal,_,s3,G4,rfl,hk _,hE2.trans hE4,o3,hR4⟩
theorem zUz{c:Code}(hk:I4 c=true):∃id,c=.region id (vG c) false:=by cases c with
 |region id ops draw=>cases draw with|false=>exact⟨id,rfl⟩|true=>cases hk
 |_=>cases hk
theorem Dv.seqP{P:Program}{na:Nb}{c:Code}{env:List AV}{s:xB}{Q:AX->List AV->xB->Prop}(hk:knd c=1)(h:Dv P na (mJ c) env s (zPU (λe s=>Dv P na (uR c) e s Q) Q)):Dv P na c env s Q:=by cases c<;>first|exact Dv.seq h|cases hk
open Go.Lib
def d9(x:Int):List Int->List Int|[]=>[x]|y::l=>if x<=y then x::y::l else y::d9 x l
def wI:List Int->List Int|[]=>[]|x::l=>d9 x (wI l)
def uP:List Int->List Int|[]=>[]|x::l=>match l with|[]=>[x]|y::_=>if x=y then uP l else x::uP l
def vI(l:List Int):List Int:=uP (wI l)
theorem B0(x:Int):∀l,(d9 x l).Perm (x::l)
 |[]=>.refl _|y::l=>by
  simp only[d9];split;·exact .refl _
  ·exact((B0 x l).cons y).trans (.swap x y l)
theorem lV:∀l,(wI l).Perm l|[]=>.refl _|x::l=>(B0 x (wI l)).trans ((lV l).cons x)
theorem I6(x:Int):∀l,l.Pairwise (·<=·)->(d9 x l).Pairwise (·<=·)
 |[],_=>by simp[d9]|y::l,h=>by
  simp only[d9];rw[List.pairwise_cons]at h;split
  ·rename_i hxy;rw[List.pairwise_cons];refine⟨λz hz=>?_,List.pairwise_cons.2 h⟩;rcases List.mem_cons.1 hz with rfl|hz;·exact hxy
   ·exact Int.le_trans hxy (h.1 z hz)
  ·rename_i hxy;rw[List.pairwise_cons];refine⟨λz hz=>?_,I6 x l h.2⟩;rcases List.mem_cons.1 ((B0 x l).mem_iff.1 hz)with rfl|hz;·omega
   ·exact h.1 z hz
theorem iZ:∀l,(wI l).Pairwise (·<=·)|[]=>.nil|x::l=>I6 x _ (iZ l)
theorem fI(l:List Int):l.mergeSort (λx y=>decide (x<=y))=wI l:=by
 have h1:(l.mergeSort (λx y=>decide (x<=y))).Perm (wI l):=(List.mergeSort_perm l _).trans (lV l).symm;have h2:(l.mergeSort (λx y=>decide (x<=y))).Pairwise (·<=·):=by have:=List.pairwise_mergeSort (le:=λ(x y:Int)=>decide (x<=y)) (λa b c h1 h2=>by simp only[decide_eq_true_eq]at*;omega) (λa b=>by simp only[Bool.or_eq_true,decide_eq_true_eq];omega) l;exact this.imp λh=>by simpa using h
 exact h1.eq_of_pairwise (λa b _ _ h1 h2=>Int.le_antisymm h1 h2) h2 (iZ l)
theorem nC(x y:Int)(l:List Int):uP (x::y::l)=if x=y then uP (y::l)else x::uP (y::l):=rfl
theorem zCH(x:Int):∀l:List Int,uP (l++[x])=if l=[]\/l.getLast?≠some x then uP l++[x]else uP l
 |[]=>by simp[uP]|[y]=>by
  show uP (y::x::[])=_;rw[nC];by_cases h:y=x;·subst h;simp[uP]
  ·simp[h,uP]|y::z::l=>by
  have ih:=zCH x (z::l);show uP (y::z::(l++[x]))=_;rw[nC,nC];simp only[List.cons_append]at ih;rw[ih];have e:(y::z::l).getLast?=(z::l).getLast?:=by simp[List.getLast?_cons_cons]
  rw[e];by_cases h:y=z;·simp only[h,if_true];split<;>split<;>simp_all
  ·simp only[h,if_false];split<;>split<;>simp_all
theorem gA(zs:List Int):∀m,m<=zs.length->compactUpTo zs.toArray m=uP (zs.take m)
 |0,_=>by simp[compactUpTo,uP]|m+1,h=>by
  rw[compactUpTo_succ,gA zs m (by omega),List.take_succ_eq_append_getElem (by omega),zCH];have hm:zs.toArray[m]! =zs[m]:=by simp[show m<zs.length by omega]
  rcases Nat.eq_zero_or_pos m with rfl|hpos;·simp[keeps,uP,show 0<zs.length by omega]
  ·have hl:(zs.take m).getLast?=some zs[m-1]:=by rw[List.getLast?_eq_getElem?,List.length_take,Nat.min_eq_left (show m<=zs.length by omega),List.getElem?_take_of_lt (show m-1<m by omega),List.getElem?_eq_getElem (show m-1<zs.length by omega)]
   have hm':zs.toArray[m-1]! =zs[m-1]:=by simp[show m-1<zs.length by omega]
   have hne:¬zs.take m=[]:=by intro e;have:=congrArg List.length e;rw[List.length_take,Nat.min_eq_left (show m<=zs.length by omega),List.length_nil]at this;omega
   rw[hl];simp only[hne,false_or,ne_eq,Option.some.injEq];by_cases e:zs[m]=zs[m-1];·rw[keeps_neg hpos (by rw[hm,hm',e])];simp[e]
   ·rw[keeps_pos (by rw[hm,hm'];exact e)];have e':¬zs[m-1]=zs[m]:=λh=>e h.symm;simp[e',hm]
theorem zNf(l:List Int):compactUpTo (l.mergeSort λx y=>decide (x<=y)).toArray (l.mergeSort λx y=>decide (x<=y)).toArray.size=vI l:=by rw[fI];have:=gA (wI l) (wI l).length (Nat.le_refl _);rw[List.take_length]at this;simpa[vI]using this
theorem b7:∀l:List Int,(uP l).length<=l.length
 |[]=>by simp[uP]|[x]=>by simp[uP]|x::y::l=>by
  rw[nC];have:=b7 (y::l);split;·simp at this⊢;omega
  ·simp at this⊢;omega
theorem nW(l:List Int):(vI l).length<=l.length:=by have:=b7 (wI l);rw[(lV l).length_eq]at this;exact this
end Go.Ab
namespace Go.Ab
open Go Go.RowKit Go.Sort
variable{P:Program}
theorem Calls.args{P:Program}{f:FuncId}{a b:Array Value}{w:World}{R:Ending->World->Prop}(h:a=b)(k:Calls P f b w R):Calls P f a w R:=h▸k
theorem zQt{P:Program}{c:Code}{Q:Exit->Act->World->Prop}{a b:Act}{w:World}(h:a=b)(k:c.wp P Q b w):c.wp P Q a w:=h▸k
theorem I7{α:Type}[Inhabited α](enc:α->Value)(w:World)(b off:Nat)(d:Array α){k:Nat}(hk:k≠b):(putRow enc w b off d).heap[k]?=w.heap[k]?:=by simp only[putRow,mapBlock,Array.getElem?_modify];rw[if_neg (λe=>hk e.symm)]
theorem vY.putRow{α:Type}[Inhabited α](enc:α->Value)(w:World)(n b off:Nat)(d:Array α):vY (λc=>c<w.heap.size/\c≠b) w (putRow enc (Sort.ahead w n) b off d):=⟨rfl,rfl,rfl,by simp,λk hk=>by rw[I7 _ _ _ _ _ hk.2];rfl⟩
theorem vY.grow(w:World)(os:Array Obj)(b:Nat):vY (λc=>c<w.heap.size/\c≠b) w (grow w os):=⟨rfl,rfl,rfl,by simp[Sort.grow],λk hk=>by show(w.heap++os)[k]?=_;rw[Array.getElem?_append_left hk.1]⟩
end Go.Ab
namespace Go.Proofs.YtohkcbcddindpaaGreat
open Go Go.Ab Go.RowKit Go.Sort Go.Proofs Go.Proofs.Tryz
theorem zCI{w:World}{b off cap:Nat}{zs:List Int}(hH:Holds (Value.int .i64) w b off zs.toArray)(hb:b<w.heap.size)(hsz:zs.length<4611686018427387904):Calls prog 100 #[.slice (some ⟨b,off,none⟩) zs.length cap] w λe w'=>e=.returned (.tuple #[])/\∃n os,w'=Sort.grow (putRow (Value.int .i64) (Sort.ahead w n) b off (zs.mergeSort λx y=>decide (x<=y)).toArray) os:=AnyM.slices_Sort_int Tryz.sortI b off cap zs w hH hb hsz
theorem I8{w:World}{b off cap:Nat}{zs:List Int}(hH:Holds (Value.int .i64) w b off zs.toArray)(hsz:zs.length<4611686018427387904)(hcap:zs.length<=cap):Calls prog 101 #[.slice (some ⟨b,off,none⟩) zs.length cap] w λe w'=>e=.returned (.slice (some ⟨b,off,none⟩) (Go.Lib.compactUpTo zs.toArray zs.toArray.size).length cap)/\∃q,w'=putRow (Value.int .i64) (Sort.ahead w q) b off (Go.Lib.compactUpTo zs.toArray zs.toArray.size++List.replicate (zs.toArray.size-(Go.Lib.compactUpTo zs.toArray zs.toArray.size).length) 0).toArray:=by have:=AnyE.slices_Compact Tryz.cmpI (Value.int .i64) (λ_=>rfl) (EqlAt.intD _ _ .i64) (NeqAt.intD _ _ .i64) 0 Tryz.zeroValue3 b off cap zs.toArray w hH (by simp;omega) (by simpa using hcap);simpa[show Tryz.cmpI_ren.f 43=101 from rfl]using this
theorem zCJ{w:World}{u:Value}{M:World->Prop}{N:World->Value->Prop}(hs:Calls prog 100 #[u] w λe w1=>e=.returned (.tuple #[])/\M w1)(hc:∀w1,M w1->Calls prog 101 #[u] w1 λe w2=>∃v,e=.returned v/\N w2 v):Calls prog 97 #[u] w λe w'=>∃v,e=.returned v/\N w' v:=by
 refine calls_of_wp func97 (c:=tT f97) (by kernel_rfl) ?_;have k0:knd (tT f97)=1:=by kernel_rfl
 have k1:I4 (mJ (tT f97))=true:=by kernel_rfl
 have k2:List.range (vG (mJ (tT f97))).size=[0]:=by kernel_rfl
 have k3:zNg (vG (mJ (tT f97)))[0]?=some (some 2,.const (.slice none 0 0)):=by kernel_rfl
 have k4:knd (uR (tT f97))=1:=by kernel_rfl
 have k5:I4 (mJ (uR (tT f97)))=true:=by kernel_rfl
 have k6:List.range (vG (mJ (uR (tT f97)))).size=[0,1]:=by kernel_rfl
 have k7:zNg (vG (mJ (uR (tT f97))))[0]?=some (some 3,.tmp 0):=by kernel_rfl
 have k8:zEf (vG (mJ (uR (tT f97))))[1]?=some (some 4,100,#[.tmp 3]):=by kernel_rfl
 have k9:knd (uR (uR (tT f97)))=1:=by kernel_rfl
 have k10:I4 (mJ (uR (uR (tT f97))))=true:=by kernel_rfl
 have k11:List.range (vG (mJ (uR (uR (tT f97))))).size=[0,1,2]:=by kernel_rfl
 have k12:zNg (vG (mJ (uR (uR (tT f97)))))[0]?=some (some 5,.tmp 0):=by kernel_rfl
 have k13:zEf (vG (mJ (uR (uR (tT f97)))))[1]?=some (some 6,101,#[.tmp 5]):=by kernel_rfl
 have k14:zNg (vG (mJ (uR (uR (tT f97)))))[2]?=some (some 2,.tmp 6):=by kernel_rfl
 have k15:zXz (uR (uR (uR (tT f97))))=true:=by kernel_rfl
 have k16:(f100.name=="runtime.NumGoroutine")=false:=by kernel_rfl
 have k17:f100.body.isNone=false:=by kernel_rfl
 have k18:(f101.name=="runtime.NumGoroutine")=false:=by kernel_rfl
 have k19:f101.body.isNone=false:=by kernel_rfl
 have k20:f97.ntmps=7:=by kernel_rfl
 have k21:f97.results=#[.tmp 2]:=by kernel_rfl
 rw[k20];revert k0 k1 k2 k3 k4 k5 k6 k7 k8 k9 k10 k11 k12 k13 k14 k15;generalize tT f97=B;intro k0 k1 k2 k3 k4 k5 k6 k7 k8 k9 k10 k11 k12 k13 k14 k15;refine zEe k0 ?_;refine A9 k1 k2 ?_;refine I5 k3 ?_;unfold wpOps;unfold Exit.then;dsimp only;refine zEe k4 ?_;refine A9 k5 k6 ?_;refine I5 k7 ?_;refine d8 k8 func100 k16 k17 ?_;refine Calls.args (b:=#[u]) (by simp[Act.eval,Act.put]) (Calls.mono hs ?_);rintro e w1⟨rfl,hM⟩;refine⟨_,rfl,?_⟩;unfold wpOps;unfold Exit.then;dsimp only;refine zQt (b:=⟨#[u,undef,.slice none 0 0,u,.tuple #[],undef,undef],[]⟩) (by simp[Act.eval,Act.put,Array.replicate_succ]) ?_;refine zEe k9 ?_;refine A9 k10 k11 ?_;refine I5 k12 ?_;refine d8 k13 func101 k18 k19 ?_;refine Calls.args (b:=#[u]) (by simp[Act.eval,Act.put]) (Calls.mono (hc w1 hM) ?_);rintro e w2⟨v,rfl,hN⟩;refine⟨_,rfl,?_⟩;refine I5 k14 ?_;unfold wpOps;unfold Exit.then;dsimp only;refine zQt (b:=⟨#[u,undef,v,u,.tuple #[],u,v],[]⟩) (by simp[Act.eval,Act.put]) ?_;refine zTZ k15 ?_;exact⟨rfl,v,by simp[results,k21],v,rfl,hN⟩
theorem zNe{w:World}{b off cap:Nat}{zs:List Int}(hH:Holds (Value.int .i64) w b off zs.toArray)(hb:b<w.heap.size)(hsz:zs.length<4611686018427387904)(hcap:zs.length<=cap):Calls prog 97 #[.slice (some ⟨b,off,none⟩) zs.length cap] w λe w'=>e=.returned (.slice (some ⟨b,off,none⟩) (vI zs).length cap)/\vY (λc=>c<w.heap.size/\c≠b) w w'/\∀i(h:i<(vI zs).length),w'.cell? ⟨b,off+i,none⟩=some (.int .i64 (vI zs)[i]):=by
 have hl:(zs.mergeSort λx y=>decide (x<=y)).length=zs.length:=List.length_mergeSort _;refine(zCJ (zCI (cap:=cap) hH hb hsz) (N:=λw' v=>v=.slice (some ⟨b,off,none⟩) (vI zs).length cap/\vY (λc=>c<w.heap.size/\c≠b) w w'/\∀i(h:i<(vI zs).length),w'.cell? ⟨b,off+i,none⟩=some (.int .i64 (vI zs)[i])) ?_).mono (λe w'⟨v,h1,h2,h3,h4⟩=>⟨by rw[h1,h2],h3,h4⟩);rintro w1⟨n,os,rfl⟩;have hH1:Holds (Value.int .i64) (Sort.grow (putRow (Value.int .i64) (Sort.ahead w n) b off (zs.mergeSort λx y=>decide (x<=y)).toArray) os) b off (zs.mergeSort λx y=>decide (x<=y)).toArray:=holds_grow _ _ _ _ _ _ (by simpa using hb) (holds_putRow _ _ _ _ zs.toArray _ hH (by simp[hl]));have hc:=I8 (cap:=cap) hH1 (by omega) (by omega);rw[hl]at hc;refine Calls.mono hc ?_;rintro e w2⟨rfl,q,rfl⟩;refine⟨_,rfl,?_⟩;rw[zNf];have hrl:=nW zs;refine⟨rfl,(vY.trans (vY.trans (vY.putRow _ w n b off _) ((vY.grow _ os b).mono λk hk=>⟨by simpa using hk.1,hk.2⟩)) ((vY.putRow _ _ q b off _).mono λk hk=>⟨?_,hk.2⟩)),λi h=>?_⟩;·show k<((putRow _ _ _ _ _).heap++os).size;simp;have:=hk.1;omega
 ·rw[cell?_putRow (Value.int .i64) _ b off (zs.mergeSort λx y=>decide (x<=y)).toArray _ (holds_ahead _ _ _ _ _ _ hH1) (by simp[hl];omega) i (by simp;omega)];simp[List.getElem?_append_left h,h]
theorem zXy:uS prog 101 [] [.sl [] 0 .no] (.sl [] 0 .no) [] 0:=uS.toFin wV mixed func101 (by kernel_rfl) 3000 [.no,.no] [] [] [] false (by kernel_rfl) (yV.cons (i9 (es:=[]) trivial) yV.nil) (by decide)
def atW(w:World):Gh:=⟨λ_=>none,λ_=>none,λ_ _=>False,w,λc=>c<w.heap.size,λ_=>False⟩
theorem zLg(w:World):yM (atW w) (xD (uI 0) (A3 [])) w:=by
 refine⟨λ_=>⟨λ_=>.inr rfl,λ_=>⟨rfl,id⟩,λe=>e.elim⟩,⟨0,λ_ _=>rfl⟩,λ_ _ _ h=>?_,λ_ _ _ h=>?_,λ_ _ h=>False.elim h,λ_ _=>rfl,λ_ h=>?_,λ_ _ _ _ _ _ _ h=>?_,vY.refl _ _,λ_ h=>h⟩;·cases h
 ·cases h
 ·cases h
 ·cases h
theorem zGu(w:World):zCu (0:Nat) (atW w):=⟨λ_ _=>⟨rfl,id⟩,λ_=>rfl,λ_ _ h=>False.elim h,trivial⟩
theorem V.none{G G':Gh}{w w':World}{v:Value}(h:V G w (.sl [] 0 .no) v):V G' w' (.sl [] 0 .no) v:=by
 simp only[V]at h⊢;obtain⟨cap,h1,⟨_,_,h2,h3,_⟩|⟨b,off,h2,_,_⟩⟩:=h;·exact⟨cap,h1,.inl ⟨trivial,trivial,h2,h3,trivial⟩⟩
 ·exact⟨cap,h1,.inr ⟨b,off,h2,by simp only[VC],trivial⟩⟩
theorem zNd{w:World}{u:Value}{p:Option Addr}{cap:Nat}(hu:u=.slice p 0 cap){G:Gh}(hV:V G w (.sl [] 0 .no) u):Calls prog 97 #[u] w λe w'=>∃v,e=.returned v/\(vY (λc=>c<w.heap.size) w w'/\∀G',V G' w' (.sl [] 0 .no) v):=by
 refine zCJ (M:=λw1=>w1=w) (by subst hu;exact AnyM.slices_Sort_int_none Tryz.sortI p cap w) ?_;rintro w1 rfl;refine(zXy (atW w1) w1 #[u] (zGu w1) (zLg w1) ?_).mono ?_;·simp only[VL];exact⟨V.none hV,trivial⟩
 ·rintro e w2⟨v,G',s',rfl,hE,hR,hv,_⟩;refine⟨v,rfl,?_,λG'=>V.none hv⟩;have:=hR.below;rw[hE.F,hE.w0]at this;exact this
theorem VL.ints{G:Gh}{w:World}:∀l:List Int,VL G w (zC zZ l) (l.map (Value.int .i64))|[]=>by simp[zC,VL]|x::l=>by simp only[zC,List.flatMap_cons,List.map_cons];simp only[zZ,List.cons_append,List.nil_append,VL,V];exact⟨trivial,VL.ints l⟩
theorem VL.ints_eq{G:Gh}{w:World}:∀(l:List Int)(us:List Value),VL G w (zC zZ l) us->us=l.map (Value.int .i64)|[],[],_=>rfl|[],_::_,h=>by simp only[zC,List.flatMap_nil,VL]at h|x::l,[],h=>by simp only[zC,List.flatMap_cons,zZ,List.cons_append,VL]at h|x::l,u::us,h=>by simp only[zC,List.flatMap_cons,zZ,List.cons_append,List.nil_append,VL,V]at h;rw[h.1,VL.ints_eq l us h.2];rfl
theorem zCK{G:Gh}{w:World}{s:xB}{k:Nat}{l:List Int}{u:Value}(hR:yM G (xD (uI 0) s) w)(ho:s.own.any (Nat.beq k)=true)(hsz:l.length<4611686018427387904)(hu:V G w (.sl (zC zZ l) l.length (.st k 1)) u):Calls prog 97 #[u] w λe w'=>∃(v:Value)(b:Nat)(S:Nat->Nat->Prop),e=.returned v/\¬G.F b/\(∀i,G.ρ i≠some b)/\vY (λc=>c<w.heap.size/\c≠b) w w'/\(∀c o,S c o->c=b/\∃x,w'.cell? ⟨c,o,none⟩=some x)/\∀G',(∀c o,S c o->G'.L c o)->V G' w' (.sl (zC zZ (vI l)) (vI l).length .no) v:=by
 have hempty:l=[]->∀p cap,u=.slice p 0 cap->V G w (.sl [] 0 .no) u->Calls prog 97 #[u] w λe w'=>∃(v:Value)(b:Nat)(S:Nat->Nat->Prop),e=.returned v/\¬G.F b/\(∀i,G.ρ i≠some b)/\vY (λc=>c<w.heap.size/\c≠b) w w'/\(∀c o,S c o->c=b/\∃x,w'.cell? ⟨c,o,none⟩=some x)/\∀G',(∀c o,S c o->G'.L c o)->V G' w' (.sl (zC zZ (vI l)) (vI l).length .no) v:=by rintro rfl p cap hp hV;refine(zNd hp hV).mono ?_;rintro e w'⟨v,rfl,hK,hv⟩;exact⟨v,w.heap.size,λ_ _=>False,rfl,λh=>Nat.lt_irrefl _ (hR.base _ h),λi hi=>Nat.lt_irrefl _ (hR.ρ_lt hi),hK.mono λk hk=>hk.1,λ_ _ h=>h.elim,λG' _=>hv G'⟩
 have hu0:=hu;simp only[V]at hu;obtain⟨cap,hcap,⟨he,hn,hc0,hu',_⟩|⟨b,off,rfl,hC,hq,hO⟩⟩:=hu
 ·have hl:l=[]:=List.length_eq_zero_iff.1 hn;subst hl;exact hempty rfl (aB u) 0 hu' (by simp only[V];exact⟨0,Nat.le_refl _,.inl ⟨trivial,trivial,rfl,hu',trivial⟩⟩)
 ·rcases hO with⟨hn,_⟩|⟨hm,hF,hτ⟩
  ·have hl:l=[]:=List.length_eq_zero_iff.1 hn;subst hl;exact hempty rfl _ cap rfl (by simp only[V];exact⟨cap,Nat.zero_le _,.inr ⟨b,off,rfl,by simp only[VC],trivial⟩⟩)
  ·obtain⟨b',f,t,q1,q2⟩:=hR.own k (by rw[rF];exact ho);rw[hτ]at q1;cases q1;rcases q2 with q2|⟨_,q3,_,vs,T,q5,q6⟩;·omega
   obtain⟨us,h1,h2⟩:=VC.cells _ _ _ hC;have hus:=VL.ints_eq l us h1;subst hus;have hH:Holds (Value.int .i64) w b off l.toArray:=by
    intro j hj;have hj':j<l.length:=by simpa using hj
    refine⟨?_,by simp[World.frozen?,q5]⟩;rw[h2 j (by simpa using hj')];simp[hj']
   have hb:b<w.heap.size:=(Array.getElem?_eq_some_iff.1 q5).1;refine(zNe hH hb hsz hcap).mono ?_;rintro e w'⟨rfl,hK,hcell⟩;refine⟨_,b,λc o=>c=b/\off<=o/\o<off+(vI l).length,rfl,hF,q3,hK,?_,λG' hS=>?_⟩;·rintro c o⟨rfl,h1,h2⟩;exact⟨rfl,.int .i64 ((vI l)[o-off]'(by omega)),by have:=hcell (o-off) (by omega);rwa[show off+(o-off)=o by omega]at this⟩
   ·simp only[V];refine⟨cap,Nat.le_trans (nW l) hcap,.inr ⟨b,off,rfl,VC.of_cells _ _ b off (VL.ints (vI l)) (λi hi=>hS _ _ ⟨rfl,by omega,?_⟩) (λi hi=>?_),trivial⟩⟩
    ·have:i<(vI l).length:=by simpa using hi
     omega
    ·rw[hcell i (by simpa using hi)];simp
end Go.Proofs.YtohkcbcddindpaaGreat
namespace Go.Ab
open Go Go.RowKit
def kV:List (ByteArray×Int)->Nat->List MapEntry|[],_=>[]|p::m,c=>{key:=.string p.1,val:=.int .i64 p.2,born:=c}::kV m (c+1)
def zEd(m:List (ByteArray×Int)):yL:=.obj (.map ⟨kV m 0⟩ m.length)
def zGt:List (ByteArray×Int)->ByteArray->Int|[],_=>0|p::m,k=>if(k==p.1)=true then p.2 else zGt m k
def b8:List (ByteArray×Int)->ByteArray->Int->List (ByteArray×Int)|[],k,v=>[(k,v)]|p::m,k,v=>if(k==p.1)=true then(k,v)::m else p::b8 m k v
def zCq:List (ByteArray×Int)->ByteArray->Nat->Option (Nat×Value)|[],_,_=>none|p::m,k,i=>if(k==p.1)=true then some (i,.int .i64 p.2)else zCq m k (i+1)
theorem gB(k:ByteArray):∀(m:List (ByteArray×Int))(c i:Nat),Instr.findNow .string (.string k) (kV m c) i=some (zCq m k i)|[],_,_=>rfl|p::m,c,i=>by simp only[kV,Instr.findNow,Instr.sameNow,zCq];cases hb:(k==p.1)with|true=>rfl|false=>simp only[Bool.false_eq_true,if_false];exact gB k m (c+1) (i+1)
theorem zGs(k:ByteArray):∀(m:List (ByteArray×Int))(i:Nat),zNy (zCq m k i) (.int .i64 0)=ai (zGt m k)|[],_=>rfl|p::m,i=>by simp only[zCq,zGt];cases hb:(k==p.1)with|true=>rfl|false=>simp only[Bool.false_eq_true,if_false];exact zGs k m (i+1)
theorem zGr(k:ByteArray)(v:Int):∀(m:List (ByteArray×Int))(c i:Nat),(match zCq m k i with|some (j,_)=>i<=j/\(kV m c).modify (j-i) (λe=>{e with key:=.string k,val:=.int .i64 v})=kV (b8 m k v) c/\(b8 m k v).length=m.length|none=>kV m c++[{key:=.string k,val:=.int .i64 v,born:=c+m.length}]=kV (b8 m k v) c/\(b8 m k v).length=m.length+1)|[],c,i=>by simp[zCq,b8,kV]|p::m,c,i=>by simp only[zCq,b8];cases hb:(k==p.1)with|true=>simp[kV]|false=>simp only[Bool.false_eq_true,if_false];have ih:=zGr k v m (c+1) (i+1);cases hm:zCq m k (i+1)with|none=>rw[hm]at ih;simp only at ih⊢;refine⟨?_,by simp[ih.2]⟩;simp only[kV,List.cons_append,List.length_cons];rw[<-ih.1,show c+(m.length+1)=c+1+m.length by omega]|some q=>obtain⟨j,u⟩:=q;rw[hm]at ih;simp only at ih⊢;refine⟨by omega,?_,by simp[ih.2.2]⟩;simp only[kV];rw[show j-i=(j-(i+1))+1 by omega,List.modify_succ_cons,ih.2.1]
variable{P:Program}{t kt et:TypeId}{ie:TypeInfo}
theorem yBw(ht:P.underlying t=some (.map kt et))(hk:P.underlying kt=some .string)(he:P.info? et=some ie)(hz:ie.zero=some (.int .i64 0))(m:List (ByteArray×Int))(k:ByteArray):Ob.ok P (.lk t (zEd m) (at' k) false (ai (zGt m k))):=by intro ev i s hl;unfold kS;simp only[ht,at',hk,he,zEd]at hl⊢;simp only[hl,hz,gB,rE,cond_true,Bool.false_eq_true,if_false,zGs]
theorem yBv(ht:P.underlying t=some (.map kt et))(hk:P.underlying kt=some .string)(m:List (ByteArray×Int))(k:ByteArray)(v:Int):Ob.ok P (.mu t (zEd m) (at' k) (ai v) (zEd (b8 m k v))):=by intro ev i s hl;unfold rU;simp only[ht,at',ai,hk,zEd]at hl⊢;simp only[hl,gB,rE,cond_true];have h:=zGr k v m 0 0;cases hm:zCq m k 0 with|none=>rw[hm]at h;simp only[Nat.zero_add]at h⊢;rw[h.2,<-h.1];simp|some q=>
 obtain⟨j,u⟩:=q;rw[hm]at h;simp only[Nat.sub_zero]at h⊢;have e:(⟨kV m 0⟩:Array MapEntry).modify j (λe=>{e with key:=.string k,val:=.int .i64 v})=⟨kV (b8 m k v) 0⟩:=by apply Array.ext';rw[Array.toList_modify];exact h.2.1
 rw[h.2.2,e]
def b9(s:ByteArray)(i:Int):Option Int:=if 0<=i then(match s[i.toNat]? with|some b=>some (b.toNat:Int)|none=>none)else none
theorem zQs{k:IntKind}(ht:P.underlying t=some .string){s:ByteArray}{i x:Int}(h:b9 s i=some x):iP P t (at' s) (.val (.int k i))=some (.val (.int .u8 x)):=by
 unfold b9 at h;unfold iP;simp only[ht,at'];split at h
 ·rename_i h0;rw[if_pos h0];split at h
  ·rename_i b hb;cases h;rw[hb]
  ·cases h
 ·cases h
end Go.Ab
