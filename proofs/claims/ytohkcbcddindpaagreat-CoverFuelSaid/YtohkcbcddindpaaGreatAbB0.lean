/- Parts of the proof that the law returns true: walks of the functions, plain laws. -/
import Derived.Below
import Derived.Calls
import Derived.ChangeKeysEq
import Derived.IntWalk
import Derived.Laws.Append
import Derived.Laws.AppendOwn
import Derived.Laws.BytesString
import Derived.Laws.CopyRow
import Derived.Laws.MakeOwn
import Derived.Laws.Slices
import Derived.Laws.StructEq
import Derived.Lib.AppendStr
import Derived.LoopN
import Derived.Orders
import Derived.Scope
set_option linter.unusedVariables false
set_option linter.unusedSimpArgs false
set_option linter.unusedSectionVars false
namespace Go.Ab
open Go Go.RowKit
inductive Own where|no|full|nl|nn|fr|z|st(k sz:Nat)
inductive AV where|val(v:Value)|agg(cs:List AV)|tup(cs:List AV)|sl(es:List AV)(n:Nat)(o:Own)|ip(es:List AV)|mp(b off:Nat)|ms(b off n c sz:Nat)|obj(b:Nat)|clo(f:FuncId)(first caps:List AV)
inductive yM where|cells(cs:List AV)|obj(o:Obj)|row(cs:List AV)|dead
structure wT where
 H:Nat->Option yM
 own:Nat->Bool
 ns:Nat
structure Gh where
 ρ:Nat->Option Nat
 τ:Nat->Option (Nat×Nat×Nat)L:Nat->Nat->Prop
 w0:World
 F:Nat->Prop
 N:Nat->Prop
structure vQ(F:Nat->Prop)(w w':World):Prop where
 os:w'.os=w.os
 tape:w'.tape=w.tape
 output:w'.output=w.output
 size:w.heap.size<=w'.heap.size
 block:∀k,F k->w'.heap[k]?=w.heap[k]?
theorem vQ.refl(F:Nat->Prop)(w:World):vQ F w w:=⟨rfl,rfl,rfl,Nat.le_refl _,λ_ _=>rfl⟩
theorem vQ.trans{F:Nat->Prop}{a b c:World}(h:vQ F a b)(k:vQ F b c):vQ F a c:=⟨k.os.trans h.os,k.tape.trans h.tape,k.output.trans h.output,Nat.le_trans h.size k.size,λi hi=>(k.block i hi).trans (h.block i hi)⟩
theorem vQ.mono{F F':Nat->Prop}{w w':World}(h:vQ F w w')(hF:∀k,F' k->F k):vQ F' w w':=⟨h.os,h.tape,h.output,h.size,λk hk=>h.block k (hF k hk)⟩
theorem vQ.of_below{B:Nat}{w w':World}(h:Below B w w'){F:Nat->Prop}(hF:∀k,F k->k<B):vQ F w w':=⟨h.os,h.tape,h.output,h.size,λk hk=>h.block k (hF k hk)⟩
theorem vQ.drew{F:Nat->Prop}{a w:World}(h:vQ F a w):vQ F a w.drew:=⟨h.os,h.tape,h.output,h.size,h.block⟩
theorem vQ.alloc{F:Nat->Prop}{a w:World}(h:vQ F a w)(hF:∀k,F k->k<w.heap.size)(o:Obj):vQ F a (w.alloc o):=h.trans ⟨rfl,rfl,rfl,by simp,λk hk=>Below.heap_alloc _ _ _ (hF k hk)⟩
def Y3(w:World)(b m:Nat):Prop:=∃vs T,w.heap[b]?=some (.cells vs T (0,0))/\m<=vs.size
def mV(G:Gh)(b off m n cap:Nat):Own->Prop|.no=>True|.full=>cap=n|.nl=>False|.nn=>True|.fr=>G.F b|.z=>n=0->cap=0|.st k sz=>(∃q,G.τ k=some q)/\((n=0/\cap=0)\/(m=n*sz/\¬G.F b/\G.τ k=some (b,off+m,off+cap*sz)))
def Own.plain:Own->Prop|.st _ _=>False|.fr=>False|_=>True
def jY:Value->Option Addr|.slice p _ _=>p|_=>none
def Own.nil(G:Gh)(p:Option Addr):Own->Prop|.st k _=>∃q,G.τ k=some q|.nn=>∃a,p=some a|.nl=>p=none|_=>True
theorem Own.nil.mono{G G':Gh}{p:Option Addr}{o:Own}(h:o.nil G p)(hτ:∀k r,G.τ k=some r->G'.τ k=some r):o.nil G' p:=by cases o with|no=>trivial|full=>trivial|nl=>exact h|nn=>exact h|fr=>trivial|z=>trivial|st k sz=>obtain⟨q,hq⟩:=h;exact⟨q,hτ _ _ hq⟩
mutual def V(G:Gh)(w:World):AV->Value->Prop|.val v,u=>u=v|.agg cs,u=>∃vs:List Value,u=.agg vs.toArray/\VL G w cs vs|.tup cs,u=>∃vs:List Value,u=.tuple vs.toArray/\VL G w cs vs|.sl es n o,u=>∃cap,n<=cap/\((es=[]/\n=0/\cap=0/\u=.slice (jY u) 0 0/\o.nil G (jY u))\/∃b off,u=.slice (some ⟨b,off,none⟩) n cap/\VC G w es b off/\mV G b off es.length n cap o)|.ip es,u=>∃b off,u=.pointer (some ⟨b,off,none⟩)/\VC G w es b off|.mp i off,u=>∃b,G.ρ i=some b/\u=.pointer (some ⟨b,off,none⟩)|.ms i off n c sz,u=>(∃b cap,G.ρ i=some b/\(n<=c/\c<=cap)/\∃o,u=.slice (some ⟨b,o,none⟩) n cap/\((o=off/\Y3 w b (off+cap*sz))\/(c=0/\0<off)))\/((n=0/\c=0)/\G.N i/\∃p,u=.slice p 0 0)|.obj i,u=>∃b,G.ρ i=some b/\u=.map (some b)|.clo f fs cs,u=>∃l r:List Value,u=.func (.func f) l.toArray r.toArray/\VL G w fs l/\VL G w cs r def VL(G:Gh)(w:World):List AV->List Value->Prop|[],[]=>True|a::as0,u::us=>V G w a u/\VL G w as0 us|_,_=>False def VC(G:Gh)(w:World):List AV->Nat->Nat->Prop|[],_,_=>True|a::as0,b,off=>G.L b off/\(∃v,w.cell? ⟨b,off,none⟩=some v/\V G w a v)/\VC G w as0 b (off+1)end
structure wV(G:Gh)(w:World)(G':Gh)(w':World):Prop where
 ρ:∀i b,G.ρ i=some b->G'.ρ i=some b
 τ:∀k r,G.τ k=some r->G'.τ k=some r
 L:∀b o,G.L b o->G'.L b o
 cell:∀b o,G.L b o->w'.cell? ⟨b,o,none⟩=w.cell? ⟨b,o,none⟩w0:G'.w0=G.w0
 F:G'.F=G.F
 newL:∀b o,G'.L b o->G.L b o\/¬G.F b
 room:∀i b m,G.ρ i=some b->Y3 w b m->Y3 w' b m
 N:∀i,G.N i->G'.N i
theorem wV.refl(G:Gh)(w:World):wV G w G w:=⟨λ_ _ h=>h,λ_ _ h=>h,λ_ _ h=>h,λ_ _ _=>rfl,rfl,rfl,λ_ _ h=>.inl h,λ_ _ _ _ h=>h,λ_ h=>h⟩
theorem wV.trans{G G₁ G₂:Gh}{w w₁ w₂:World}(h:wV G w G₁ w₁)(k:wV G₁ w₁ G₂ w₂):wV G w G₂ w₂:=⟨λi b e=>k.ρ i b (h.ρ i b e),λi b e=>k.τ i b (h.τ i b e),λb o e=>k.L b o (h.L b o e),λb o e=>(k.cell b o (h.L b o e)).trans (h.cell b o e),k.w0.trans h.w0,k.F.trans h.F,λb o e=>(k.newL b o e).elim (h.newL b o) (λq=>.inr (h.F▸q)),λi b m e r=>k.room i b m (h.ρ i b e) (h.room i b m e r),λi e=>k.N i (h.N i e)⟩
theorem mV.mono{G G':Gh}(hF:G'.F=G.F)(hτ:∀k r,G.τ k=some r->G'.τ k=some r){b off m n cap:Nat}{o:Own}(h:mV G b off m n cap o):mV G' b off m n cap o:=by cases o with|no=>trivial|full=>exact h|nl=>exact h|nn=>trivial|fr=>show G'.F b;rw[hF];exact h|z=>exact h|st k sz=>exact⟨h.1.imp λq=>hτ _ _,h.2.imp id λ⟨h1,h2,h3⟩=>⟨h1,by rw[hF];exact h2,hτ _ _ h3⟩⟩
mutual theorem V.mono{G G':Gh}{w w':World}(h:wV G w G' w'):∀(a:AV)(u:Value),V G w a u->V G' w' a u
 |.val v,u,hv=>by simpa only[V]using hv|.agg cs,u,hv=>by simp only[V]at hv⊢;obtain⟨vs,rfl,hl⟩:=hv;exact⟨vs,rfl,VL.mono h cs vs hl⟩|.tup cs,u,hv=>by simp only[V]at hv⊢;obtain⟨vs,rfl,hl⟩:=hv;exact⟨vs,rfl,VL.mono h cs vs hl⟩|.sl es n o,u,hv=>by
  simp only[V]at hv⊢;obtain⟨cap,hc,hh⟩:=hv;refine⟨cap,hc,?_⟩;rcases hh with hh|⟨b,off,hu,hcells,ho⟩;·exact .inl ⟨hh.1,hh.2.1,hh.2.2.1,hh.2.2.2.1,hh.2.2.2.2.mono h.τ⟩
  ·exact .inr ⟨b,off,hu,VC.mono h es b off hcells,ho.mono h.F h.τ⟩|.ip es,u,hv=>by simp only[V]at hv⊢;obtain⟨b,off,hu,hcells⟩:=hv;exact⟨b,off,hu,VC.mono h es b off hcells⟩|.mp i off,u,hv=>by simp only[V]at hv⊢;obtain⟨b,hb,hu⟩:=hv;exact⟨b,h.ρ _ _ hb,hu⟩|.ms i off n c sz,u,hv=>by
  simp only[V]at hv⊢;rcases hv with⟨b,cap,hb,hn,o,hu,hr⟩|⟨hn,hN,hv⟩;·exact .inl ⟨b,cap,h.ρ _ _ hb,hn,o,hu,hr.imp (λq=>⟨q.1,h.room _ _ _ hb q.2⟩) id⟩
  ·exact .inr ⟨hn,h.N _ hN,hv⟩|.obj i,u,hv=>by simp only[V]at hv⊢;obtain⟨b,hb,hu⟩:=hv;exact⟨b,h.ρ _ _ hb,hu⟩|.clo f fs cs,u,hv=>by simp only[V]at hv⊢;obtain⟨l,r,hu,h1,h2⟩:=hv;exact⟨l,r,hu,VL.mono h fs l h1,VL.mono h cs r h2⟩theorem VL.mono{G G':Gh}{w w':World}(h:wV G w G' w'):∀(as0:List AV)(us:List Value),VL G w as0 us->VL G' w' as0 us|[],[],_=>by simp only[VL]|a::as0,u::us,hv=>by simp only[VL]at hv⊢;exact⟨V.mono h a u hv.1,VL.mono h as0 us hv.2⟩|[],_::_,hv=>by simp only[VL]at hv|_::_,[],hv=>by simp only[VL]at hv theorem VC.mono{G G':Gh}{w w':World}(h:wV G w G' w'):∀(as0:List AV)(b off:Nat),VC G w as0 b off->VC G' w' as0 b off|[],_,_,_=>by simp only[VC]|a::as0,b,off,hv=>by simp only[VC]at hv⊢;obtain⟨hL,⟨v,hv,ha⟩,hr⟩:=hv;exact⟨h.L _ _ hL,⟨v,(h.cell _ _ hL).trans hv,V.mono h a v ha⟩,VC.mono h as0 b (off+1) hr⟩end
def gT(G:Gh)(w:World)(cs:List AV)(l:List Value):Prop:=∃us rest,l=us++rest/\VL G w cs us
theorem gT.of{G:Gh}{w:World}{cs:List AV}{l:List Value}(h:VL G w cs l):gT G w cs l:=⟨l,[],by simp,h⟩
theorem gT.imp{G G':Gh}{w w':World}{cs cs':List AV}{l:List Value}(h:gT G w cs l)(k:∀us,VL G w cs us->VL G' w' cs' us):gT G' w' cs' l:=by obtain⟨us,rest,e,hv⟩:=h;exact⟨us,rest,e,k us hv⟩
def zCB:Obj->Prop|.cells ..=>False|_=>True
def vN(G:Gh)(w:World)(b:Nat):yM->Prop|.cells cs=>∃vs T,w.heap[b]?=some (.cells vs T (0,0))/\gT G w cs vs.toList|.obj o=>w.heap[b]?=some o/\zCB o|.row cs=>∃vs T,w.heap[b]?=some (.cells vs T (0,0))/\gT G w cs vs.toList|.dead=>b<w.heap.size
def yM.void:yM->Prop|.dead=>True|.row []=>True|_=>False
theorem yM.void_row{cs:List AV}(h:(yM.row cs).void):cs=[]:=by cases cs with|nil=>rfl|cons a l=>exact h.elim
def jZ(r:Option Nat)(N:Prop)(x:Option yM):Prop:=(r=none->N\/x=none)/\(x=none->r=none/\¬N)/\(N->r=none/\∀X,x=some X->X.void)
theorem jZ.some{b:Nat}{N:Prop}{X:yM}(h:¬N):jZ (some b) N (some X):=⟨λe=>(by cases e),λe=>(by cases e),λe=>absurd e h⟩
theorem jZ.map{r:Option Nat}{N:Prop}{x:Option yM}{f:yM->yM}(h:jZ r N x)(hf:∀X,X.void->(f X).void):jZ r N (x.map f):=by cases x with|none=>exact h|some X=>exact⟨λe=>(h.1 e).imp id λq=>(by cases q),λe=>(by cases e),λe=>⟨(h.2.2 e).1,λY hY=>by cases hY;exact hf X ((h.2.2 e).2 X rfl)⟩⟩
structure yK(G:Gh)(σ:wT)(w:World):Prop where
 dom:∀i,jZ (G.ρ i) (G.N i) (σ.H i)fin:∃N,∀i,N<=i->σ.H i=none
 inj:∀i j b,G.ρ i=some b->G.ρ j=some b->i=j\/σ.H i=some .dead\/σ.H j=some .dead
 blk:∀i b X,G.ρ i=some b->σ.H i=some X->¬G.F b/\vN G w b X
 live:∀b o,G.L b o->(∃v,w.cell? ⟨b,o,none⟩=some v)/\∀i,G.ρ i≠some b
 τns:∀k,σ.ns<=k->G.τ k=none
 own:∀k,σ.own k=true->∃b f t,G.τ k=some (b,f,t)/\(t<f\/(¬G.F b/\(∀i,G.ρ i≠some b)/\(∀o,f<=o->o<t->¬G.L b o)/\∃vs T,w.heap[b]?=some (.cells vs T (0,0))/\t<=vs.size))ownd:∀k k' b f t f' t',σ.own k=true->σ.own k'=true->G.τ k=some (b,f,t)->G.τ k'=some (b,f',t')->f<t->f'<t'->k=k'
 below:vQ G.F G.w0 w
 base:∀k,G.F k->k<w.heap.size
theorem VL.length{G:Gh}{w:World}:∀(as0:List AV)(us:List Value),VL G w as0 us->us.length=as0.length|[],[],_=>rfl|_::as0,_::us,h=>by simp only[VL]at h;simp[VL.length as0 us h.2]|[],_::_,h=>by simp only[VL]at h|_::_,[],h=>by simp only[VL]at h
theorem VL.get{G:Gh}{w:World}:∀(as0:List AV)(us:List Value),VL G w as0 us->∀(i:Nat)(a:AV),as0[i]?=some a->∃u,us[i]?=some u/\V G w a u
 |[],[],_,i,a,h=>by simp at h|x::as0,y::us,h,i,a,ha=>by simp only[VL]at h;cases i with|zero=>simp at ha;subst ha;exact⟨y,rfl,h.1⟩|succ i=>simp at ha;simpa using VL.get as0 us h.2 i a ha
 |[],_::_,h,_,_,_=>by simp only[VL]at h|_::_,[],h,_,_,_=>by simp only[VL]at h
theorem VL.set{G:Gh}{w:World}:∀(as0:List AV)(us:List Value),VL G w as0 us->∀(i:Nat)(a:AV)(u:Value),V G w a u->VL G w (as0.set i a) (us.set i u)
 |[],[],_,i,a,u,_=>by simp[VL]|x::as0,y::us,h,i,a,u,hv=>by simp only[VL]at h;cases i with|zero=>simp only[List.set_cons_zero,VL];exact⟨hv,h.2⟩|succ i=>simp only[List.set_cons_succ,VL];exact⟨h.1,VL.set as0 us h.2 i a u hv⟩
 |[],_::_,h,_,_,_,_=>by simp only[VL]at h|_::_,[],h,_,_,_,_=>by simp only[VL]at h
theorem VL.append{G:Gh}{w:World}:∀(as0:List AV)(us:List Value)(bs:List AV)(vs:List Value),VL G w as0 us->VL G w bs vs->VL G w (as0++bs) (us++vs)|[],[],_,_,_,k=>k|a::as0,u::us,bs,vs,h,k=>by simp only[VL]at h;simp only[List.cons_append,VL];exact⟨h.1,VL.append as0 us bs vs h.2 k⟩|[],_::_,_,_,h,_=>by simp only[VL]at h|_::_,[],_,_,h,_=>by simp only[VL]at h
theorem VL.drop{G:Gh}{w:World}:∀(as0:List AV)(us:List Value)(n:Nat),VL G w as0 us->VL G w (as0.drop n) (us.drop n)|as0,us,0,h=>by simpa using h|[],[],n+1,_=>by simp[VL]|a::as0,u::us,n+1,h=>by simp only[VL]at h;simpa using VL.drop as0 us n h.2|[],_::_,_+1,h=>by simp only[VL]at h|_::_,[],_+1,h=>by simp only[VL]at h
theorem VL.take{G:Gh}{w:World}:∀(as0:List AV)(us:List Value)(n:Nat),VL G w as0 us->VL G w (as0.take n) (us.take n)|as0,us,0,h=>by simp[VL]|[],[],n+1,_=>by simp[VL]|a::as0,u::us,n+1,h=>by simp only[VL]at h;simp only[List.take_succ_cons,VL];exact⟨h.1,VL.take as0 us n h.2⟩|[],_::_,_+1,h=>by simp only[VL]at h|_::_,[],_+1,h=>by simp only[VL]at h
theorem VC.drop{G:Gh}{w:World}:∀(as0:List AV)(b off n:Nat),VC G w as0 b off->VC G w (as0.drop n) b (off+n)|as0,b,off,0,h=>by simpa using h|[],b,off,n+1,_=>by simp[VC]|a::as0,b,off,n+1,h=>by simp only[VC]at h;have:=VC.drop as0 b (off+1) n h.2.2;simp only[List.drop_succ_cons];rwa[show off+(n+1)=off+1+n by omega]
theorem VC.take{G:Gh}{w:World}:∀(as0:List AV)(b off n:Nat),VC G w as0 b off->VC G w (as0.take n) b off|as0,b,off,0,h=>by simp[VC]|[],b,off,n+1,_=>by simp[VC]|a::as0,b,off,n+1,h=>by simp only[VC]at h;simp only[List.take_succ_cons,VC];exact⟨h.1,h.2.1,VC.take as0 b (off+1) n h.2.2⟩
theorem VC.append{G:Gh}{w:World}:∀(as0 bs:List AV)(b off:Nat),VC G w as0 b off->VC G w bs b (off+as0.length)->VC G w (as0++bs) b off|[],bs,b,off,_,k=>by simpa using k|a::as0,bs,b,off,h,k=>by simp only[VC]at h;simp only[List.cons_append,VC];exact⟨h.1,h.2.1,VC.append as0 bs b (off+1) h.2.2 (by simpa[Nat.add_assoc,Nat.add_comm 1]using k)⟩
theorem gT.le{G:Gh}{w:World}{cs:List AV}{l:List Value}(h:gT G w cs l):cs.length<=l.length:=by obtain⟨us,rest,rfl,hv⟩:=h;have:=VL.length _ _ hv;simp;omega
theorem gT.get{G:Gh}{w:World}{cs:List AV}{l:List Value}(h:gT G w cs l)(i:Nat)(a:AV)(ha:cs[i]?=some a):∃u,l[i]?=some u/\V G w a u:=by obtain⟨us,rest,rfl,hv⟩:=h;obtain⟨u,h1,h2⟩:=VL.get _ _ hv i a ha;exact⟨u,by rw[List.getElem?_append_left (List.getElem?_eq_some_iff.1 h1).1];exact h1,h2⟩
theorem gT.set{G:Gh}{w:World}{cs:List AV}{l:List Value}(h:gT G w cs l)(i:Nat)(hi:i<cs.length)(a:AV)(u:Value)(hu:V G w a u):gT G w (cs.set i a) (l.set i u):=by obtain⟨us,rest,rfl,hv⟩:=h;have:=VL.length _ _ hv;exact⟨us.set i u,rest,by rw[List.set_append_left i u (by omega)],VL.set _ _ hv i a u hu⟩
theorem gT.drop{G:Gh}{w:World}{cs:List AV}{l:List Value}(h:gT G w cs l)(n:Nat):gT G w (cs.drop n) (l.drop n):=by
 obtain⟨us,rest,rfl,hv⟩:=h;have:=VL.length _ _ hv;rcases Nat.lt_or_ge us.length n with e|e
 ·refine⟨[],_,rfl,?_⟩;rw[List.drop_eq_nil_of_le (by omega)];simp only[VL]
 ·exact⟨us.drop n,rest,by rw[List.drop_append_of_le_length e],VL.drop _ _ n hv⟩
theorem gT.take{G:Gh}{w:World}{cs:List AV}{l:List Value}(h:gT G w cs l)(n:Nat)(hn:n<=cs.length):VL G w (cs.take n) (l.take n):=by obtain⟨us,rest,rfl,hv⟩:=h;have:=VL.length _ _ hv;rw[List.take_append_of_le_length (by omega)];exact VL.take _ _ n hv
theorem VC.cells{G:Gh}{w:World}:∀(as0:List AV)(b off:Nat),VC G w as0 b off->∃vs:List Value,VL G w as0 vs/\∀i(h:i<vs.length),w.cell? ⟨b,off+i,none⟩=some vs[i]|[],_,_,_=>⟨[],by simp[VL],λi h=>by simp at h⟩|x::as0,b,off,h=>by simp only[VC]at h;obtain⟨_,⟨v,hv,hx⟩,hr⟩:=h;obtain⟨vs,h1,h2⟩:=VC.cells as0 b (off+1) hr;refine⟨v::vs,by simp only[VL];exact⟨hx,h1⟩,λi hi=>?_⟩;cases i with|zero=>simpa using hv|succ i=>have:=h2 i (by simpa using hi);simpa[show off+(i+1)=off+1+i by omega]using this
theorem VC.of_cells{G:Gh}{w:World}:∀(as0:List AV)(vs:List Value)(b off:Nat),VL G w as0 vs->(∀i,i<vs.length->G.L b (off+i))->(∀i(h:i<vs.length),w.cell? ⟨b,off+i,none⟩=some vs[i])->VC G w as0 b off
 |[],_,_,_,_,_,_=>by simp[VC]|a::as0,[],_,_,h,_,_=>by simp only[VL]at h|a::as0,v::vs,b,off,h,hL,hc=>by
  simp only[VL]at h;simp only[VC];refine⟨by simpa using hL 0 (by simp),⟨v,hc 0 (Nat.succ_pos _),h.1⟩,VC.of_cells as0 vs b (off+1) h.2 (λi hi=>?_) (λi hi=>?_)⟩
  ·have:=hL (i+1) (by simpa using hi);rwa[show off+1+i=off+(i+1)by omega]
  ·have:=hc (i+1) (by simpa using hi);simpa[show off+1+i=off+(i+1)by omega]using this
theorem vN.lt{G:Gh}{w:World}{b:Nat}{X:yM}(hX:vN G w b X):b<w.heap.size:=by cases X with|cells cs=>obtain⟨vs,T,hh,_⟩:=hX;exact(Array.getElem?_eq_some_iff.1 hh).1|obj o=>exact(Array.getElem?_eq_some_iff.1 hX.1).1|row cs=>obtain⟨vs,T,hh,_⟩:=hX;exact(Array.getElem?_eq_some_iff.1 hh).1|dead=>exact hX
def up{α:Type}(f:Nat->Option α)(i:Nat)(x:α):Nat->Option α:=λj=>if j=i then some x else f j
theorem yH{α:Type}(f:Nat->Option α)(i:Nat)(x:α):up f i x i=some x:=by simp[up]
theorem xA{α:Type}(f:Nat->Option α){i j:Nat}(x:α)(h:j≠i):up f i x j=f j:=by simp[up,h]
theorem nC{α:Type}{f:Nat->Option α}{i j:Nat}{x y:α}(h:up f i x j=some y):(j=i/\y=x)\/(j≠i/\f j=some y):=by
 by_cases hj:j=i;·subst hj;rw[yH]at h;cases h;exact .inl ⟨rfl,rfl⟩
 ·rw[xA f x hj]at h;exact .inr ⟨hj,h⟩
theorem gU{α:Type}{f:Nat->Option α}{i j:Nat}{x y:α}(hi:f i=none)(h:f j=some y):up f i x j=some y:=by rw[xA];exact h;rintro rfl;rw[hi]at h;cases h
theorem yK.has{G:Gh}{σ:wT}{w:World}(h:yK G σ w){i b:Nat}(hi:G.ρ i=some b):∃X,σ.H i=some X:=by cases hX:σ.H i with|none=>rw[((h.dom i).2.1 hX).1]at hi;cases hi|some X=>exact⟨X,rfl⟩
theorem yK.look{G:Gh}{σ:wT}{w:World}(h:yK G σ w){i:Nat}{X:yM}(hi:σ.H i=some X)(hv:¬X.void:=by exact id):∃b,G.ρ i=some b/\¬G.F b/\vN G w b X:=by cases hb:G.ρ i with
 |none=>
  rcases(h.dom i).1 hb with e|e;·exact absurd (((h.dom i).2.2 e).2 X hi) hv
  ·rw[e]at hi;cases hi|some b=>exact⟨b,rfl,h.blk i b X hb hi⟩
theorem yK.ρN{G:Gh}{σ:wT}{w:World}(h:yK G σ w){i b:Nat}(hi:G.ρ i=some b):¬G.N i:=λe=>by rw[((h.dom i).2.2 e).1]at hi;cases hi
theorem yK.Nvoid{G:Gh}{σ:wT}{w:World}(h:yK G σ w){i:Nat}{X:yM}(e:G.N i)(hi:σ.H i=some X):X.void:=((h.dom i).2.2 e).2 X hi
theorem yK.dom_up{G:Gh}{σ:wT}{w:World}(h:yK G σ w){i b:Nat}(hi:G.ρ i=some b)(Z:yM)(j:Nat):jZ (G.ρ j) (G.N j) (up σ.H i Z j):=by
 by_cases hj:j=i;·subst hj;rw[yH,hi];exact .some (h.ρN hi)
 ·rw[xA _ _ hj];exact h.dom j
theorem yK.fnew{G:Gh}{σ:wT}{w:World}(h:yK G σ w):¬G.F w.heap.size:=λhF=>Nat.lt_irrefl _ (h.base _ hF)
theorem yK.ρ_lt{G:Gh}{σ:wT}{w:World}(h:yK G σ w){i b:Nat}(hi:G.ρ i=some b):b<w.heap.size:=by obtain⟨X,hX⟩:=h.has hi;exact(h.blk i b X hi hX).2.lt
theorem yK.L_lt{G:Gh}{σ:wT}{w:World}(h:yK G σ w){b o:Nat}(hL:G.L b o):b<w.heap.size:=by obtain⟨⟨v,hv⟩,_⟩:=h.live b o hL;exact World.block_lt_of_cell? w ⟨b,o,none⟩ hv
theorem zHi{w w':World}{b:Nat}(hb:w'.heap[b]?=w.heap[b]?)(h:b<w.heap.size):b<w'.heap.size:=by rw[Array.getElem?_eq_getElem h]at hb;exact(Array.getElem?_eq_some_iff.1 hb).1
theorem Y3.same{w w':World}{b m:Nat}(hb:w'.heap[b]?=w.heap[b]?)(h:Y3 w b m):Y3 w' b m:=by obtain⟨vs,T,h1,h2⟩:=h;exact⟨vs,T,hb.trans h1,h2⟩
theorem Y3.lt{w:World}{b m:Nat}(h:Y3 w b m):b<w.heap.size:=by obtain⟨vs,T,h1,_⟩:=h;exact(Array.getElem?_eq_some_iff.1 h1).1
theorem Y3.alloc{w:World}{b m:Nat}(o:Obj)(h:Y3 w b m):Y3 (w.alloc o) b m:=h.same (Below.heap_alloc w o b h.lt)
theorem vN.mono{G G':Gh}{w w':World}(h:wV G w G' w'){b:Nat}(hb:w'.heap[b]?=w.heap[b]?){X:yM}(hX:vN G w b X):vN G' w' b X:=by cases X with|cells cs=>obtain⟨vs,T,hh,hl⟩:=hX;exact⟨vs,T,hb.trans hh,hl.imp (VL.mono h _)⟩|obj o=>exact⟨hb.trans hX.1,hX.2⟩|row cs=>obtain⟨vs,T,hh,hl⟩:=hX;exact⟨vs,T,hb.trans hh,hl.imp (VL.mono h _)⟩|dead=>exact zHi hb hX
def Gh.addρ(G:Gh)(i b:Nat):Gh:={G with ρ:=up G.ρ i b}
def Gh.addL(G:Gh)(b lo hi:Nat):Gh:={G with L:=λc o=>G.L c o\/(c=b/\lo<=o/\o<hi)}
def Gh.addτ(G:Gh)(k:Nat)(r:Nat×Nat×Nat):Gh:={G with τ:=up G.τ k r}
theorem sV(w:World)(o:Obj){k:Nat}(h:k<w.heap.size):(w.alloc o).heap[k]?=w.heap[k]?:=Below.heap_alloc w o k h
theorem wL(w:World)(o:Obj):(w.alloc o).heap[w.heap.size]?=some o:=by show(w.heap.push o)[w.heap.size]?=_;simp
theorem wV.alloc{G:Gh}{σ:wT}{w:World}(h:yK G σ w)(o:Obj){i:Nat}(hi:σ.H i=none):wV G w (G.addρ i w.heap.size) (w.alloc o):=⟨λ_ _ e=>gU ((h.dom i).2.1 hi).1 e,λ_ _ e=>e,λ_ _ e=>e,λb o' e=>World.cell?_alloc_lt w _ ⟨b,o',none⟩ (h.L_lt e),rfl,rfl,λ_ _ e=>.inl e,λ_ _ _ _ r=>r.alloc o,λ_ e=>e⟩
theorem yK.inj_up{G:Gh}{σ:wT}{w:World}(h:yK G σ w){i:Nat}(hd:σ.H i≠some .dead)(Z:yM):∀j k b,G.ρ j=some b->G.ρ k=some b->j=k\/up σ.H i Z j=some .dead\/up σ.H i Z k=some .dead:=by
 intro j k b hj hk;have hne:∀t,σ.H t=some .dead->up σ.H i Z t=some .dead:=λt ht=>by rw[xA _ _ (λe=>by subst e;exact hd ht)];exact ht
 exact(h.inj j k b hj hk).imp id (Or.imp (hne j) (hne k))
theorem yK.alloc{G:Gh}{σ:wT}{w:World}(h:yK G σ w)(o:Obj)(X:yM){i:Nat}(hi:σ.H i=none)(hn:vN (G.addρ i w.heap.size) (w.alloc o) w.heap.size X):yK (G.addρ i w.heap.size) ⟨up σ.H i X,σ.own,σ.ns⟩ (w.alloc o):=by
 have hE:=wV.alloc h o hi;refine⟨?_,?_,?_,?_,?_,h.τns,?_,h.ownd,h.below.alloc h.base _,λk hk=>Nat.lt_of_lt_of_le (h.base k hk) (by simp)⟩
 ·intro j;by_cases hj:j=i
  ·subst hj;show jZ (up G.ρ j _ j) (G.N j) (up σ.H j X j);rw[yH,yH];exact .some ((h.dom j).2.1 hi).2
  ·show jZ (up G.ρ i _ j) (G.N j) (up σ.H i X j);rw[xA _ _ hj,xA _ _ hj];exact h.dom j
 ·obtain⟨N,hN⟩:=h.fin;refine⟨max N (i+1),λj hj=>?_⟩;show up σ.H i X j=none;rw[xA _ _ (by omega)];exact hN j (by omega)
 ·intro j k b hj hk;rcases nC hj with⟨e1,e2⟩|⟨_,hj⟩<;>rcases nC hk with⟨e3,e4⟩|⟨_,hk⟩;·omega
  ·have:=h.ρ_lt hk;omega
  ·have:=h.ρ_lt hj;omega
  ·have hne:∀t,G.ρ t=some b->t≠i:=λt ht e=>by subst e;rw[((h.dom t).2.1 hi).1]at ht;cases ht
   show j=k\/up σ.H i X j=_\/up σ.H i X k=_;rw[xA _ _ (hne j hj),xA _ _ (hne k hk)];exact h.inj j k b hj hk
 ·intro j b Y hj hY;rcases nC hj with⟨rfl,rfl⟩|⟨hne,hj⟩;·simp only[yH,Option.some.injEq]at hY;subst hY;exact⟨h.fnew,hn⟩
  ·rw[show(⟨up σ.H i X,σ.own,σ.ns⟩:wT).H j=σ.H j from xA _ _ hne]at hY;obtain⟨h1,h3⟩:=h.blk j b Y hj hY;exact⟨h1,vN.mono hE (sV w o (h.ρ_lt hj)) h3⟩
 ·intro b o' hL;replace hL:G.L b o':=hL;obtain⟨⟨v,hv⟩,h2⟩:=h.live b o' hL;refine⟨⟨v,(World.cell?_alloc_lt w _ _ (h.L_lt hL)).trans hv⟩,λj hj=>?_⟩;rcases nC hj with⟨_,e⟩|⟨_,hj⟩;·have:=h.L_lt hL;omega
  ·exact h2 j hj
 ·intro k hk;obtain⟨b,f,t,h1,h2|⟨h2,h3,h4,vs,T,h5,h6⟩⟩:=h.own k hk;·exact⟨b,f,t,h1,.inl h2⟩
  have hlt:b<w.heap.size:=(Array.getElem?_eq_some_iff.1 h5).1;refine⟨b,f,t,h1,.inr ⟨h2,λj hj=>?_,h4,vs,T,(sV w o hlt).trans h5,h6⟩⟩;rcases nC hj with⟨_,e⟩|⟨_,hj⟩;·omega
  ·exact h3 j hj
theorem yK.alloc_cells{G:Gh}{σ:wT}{w:World}(h:yK G σ w)(cs:List AV)(vs:List Value)(T:TypeId)(hv:VL G w cs vs){i:Nat}(hi:σ.H i=none):yK (G.addρ i w.heap.size) ⟨up σ.H i (.cells cs),σ.own,σ.ns⟩ (w.alloc (.cells vs.toArray T)):=h.alloc _ (.cells cs) hi ⟨vs.toArray,T,wL w _,by simpa using gT.of (VL.mono (wV.alloc h _ hi) _ _ hv)⟩
theorem yK.alloc_row{G:Gh}{σ:wT}{w:World}(h:yK G σ w)(cs:List AV)(vs:List Value)(T:TypeId)(hv:VL G w cs vs){i:Nat}(hi:σ.H i=none):yK (G.addρ i w.heap.size) ⟨up σ.H i (.row cs),σ.own,σ.ns⟩ (w.alloc (.cells vs.toArray T)):=h.alloc _ (.row cs) hi ⟨vs.toArray,T,wL w _,by simpa using gT.of (VL.mono (wV.alloc h _ hi) _ _ hv)⟩
theorem yK.alloc_obj{G:Gh}{σ:wT}{w:World}(h:yK G σ w)(o:Obj)(ho:zCB o){i:Nat}(hi:σ.H i=none):yK (G.addρ i w.heap.size) ⟨up σ.H i (.obj o),σ.own,σ.ns⟩ (w.alloc o):=h.alloc _ (.obj o) hi ⟨wL w _,ho⟩
theorem wV.drew(G:Gh)(w:World):wV G w G w.drew:=⟨λ_ _ e=>e,λ_ _ e=>e,λ_ _ e=>e,λ_ _ _=>rfl,rfl,rfl,λ_ _ e=>.inl e,λ_ _ _ _ r=>r,λ_ e=>e⟩
theorem yK.drew{G:Gh}{σ:wT}{w:World}(h:yK G σ w):yK G σ w.drew:=by refine⟨h.dom,h.fin,h.inj,λi b X hi hX=>?_,h.live,h.τns,h.own,h.ownd,h.below.drew,h.base⟩;obtain⟨h1,h3⟩:=h.blk i b X hi hX;exact⟨h1,vN.mono (wV.drew G w) rfl h3⟩
def wT.stamp(σ:wT)(use:Option Nat)(new:Bool):wT:=⟨σ.H,λk=>if k=σ.ns/\new=true then true else if use=some k then false else σ.own k,if new then σ.ns+1 else σ.ns⟩
theorem yK.own_lt{G:Gh}{σ:wT}{w:World}(h:yK G σ w){k:Nat}(hk:σ.own k=true):k<σ.ns:=by
 obtain⟨b,f,t,h1,_⟩:=h.own k hk;rcases Nat.lt_or_ge k σ.ns with e|e;·exact e
 ·rw[h.τns k e]at h1;cases h1
theorem yK.alloc_live{G:Gh}{σ:wT}{w:World}(h:yK G σ w)(cs:List AV)(vs rest:List Value)(T:TypeId)(hv:VL G w cs vs):let G':=((G.addL w.heap.size 0 vs.length).addτ σ.ns (w.heap.size,vs.length,vs.length+rest.length))
  let w':=w.alloc (.cells (vs++rest).toArray T)
  wV G w G' w'/\yK G' (σ.stamp none true) w'/\VC G' w' cs w.heap.size 0:=by
 intro G' w';have hcell:∀i(hi:i<vs.length),w'.cell? ⟨w.heap.size,i,none⟩=some vs[i]:=by intro i hi;show(w.alloc _).cell? _=_;rw[World.cell?_alloc_new];simp[List.getElem?_append_left hi,hi]
 have hE:wV G w G' w':=⟨λ_ _ e=>e,λ_ _ e=>gU (h.τns _ (Nat.le_refl _)) e,λ_ _ e=>.inl e,λb o e=>World.cell?_alloc_lt w _ ⟨b,o,none⟩ (h.L_lt e),rfl,rfl,λ_ _ e=>e.elim .inl λq=>.inr (by rw[q.1];exact h.fnew),λ_ _ _ _ r=>r.alloc _,λ_ e=>e⟩;refine⟨hE,⟨h.dom,h.fin,h.inj,?_,?_,?_,?_,?_,h.below.alloc h.base _,λk hk=>Nat.lt_of_lt_of_le (h.base k hk) (show w.heap.size<=(w.alloc _).heap.size by simp)⟩,?_⟩
 ·intro i b X hi hX;obtain⟨h1,h3⟩:=h.blk i b X hi hX;exact⟨h1,vN.mono hE (sV w _ (h.ρ_lt hi)) h3⟩
 ·intro b o hL;rcases hL with hL|⟨rfl,_,hlt⟩
  ·obtain⟨⟨v,hv⟩,h2⟩:=h.live b o hL;exact⟨⟨v,(World.cell?_alloc_lt w _ _ (h.L_lt hL)).trans hv⟩,h2⟩
  ·exact⟨⟨_,hcell o hlt⟩,λi hi=>absurd (h.ρ_lt hi) (Nat.lt_irrefl _)⟩
 ·intro k hk;have hk':σ.ns+1<=k:=by simpa[wT.stamp]using hk
  show up G.τ σ.ns _ k=none;rw[xA _ _ (by omega)];exact h.τns k (by omega)
 ·intro k hk;by_cases e:k=σ.ns
  ·subst e;refine⟨w.heap.size,vs.length,vs.length+rest.length,yH _ _ _,.inr ⟨h.fnew,λi hi=>absurd (h.ρ_lt hi) (Nat.lt_irrefl _),λo ho _ hL=>?_,(vs++rest).toArray,T,wL w _,by simp⟩⟩;rcases hL with hL|⟨_,_,hlt⟩;·exact absurd (h.L_lt hL) (Nat.lt_irrefl _)
   ·omega
  ·have hk':σ.own k=true:=by simpa[wT.stamp,e]using hk
   obtain⟨b,f,t,h1,h2|⟨h2,h3,h4,vs',T',h5,h6⟩⟩:=h.own k hk';·exact⟨b,f,t,(xA _ _ e).trans h1,.inl h2⟩
   have hlt:b<w.heap.size:=(Array.getElem?_eq_some_iff.1 h5).1;refine⟨b,f,t,(xA _ _ e).trans h1,.inr ⟨h2,h3,λo ho ht hL=>?_,vs',T',(sV w _ hlt).trans h5,h6⟩⟩;rcases hL with hL|⟨e,_,_⟩;·exact h4 o ho ht hL
   ·omega
 ·have key:∀k b f t,k≠σ.ns->(σ.stamp none true).own k=true->G'.τ k=some (b,f,t)->f<t->b<w.heap.size/\σ.own k=true/\G.τ k=some (b,f,t):=by
   intro k b f t e hk ht hft;have hk':σ.own k=true:=by simpa[wT.stamp,e]using hk
   have ht':G.τ k=some (b,f,t):=(xA _ _ e).symm.trans ht;obtain⟨b',f'',t'',q1,q2|⟨q2,q3,q4,vs',T',q5,q6⟩⟩:=h.own k hk';·rw[ht']at q1;cases q1;omega
   rw[ht']at q1;cases q1;exact⟨(Array.getElem?_eq_some_iff.1 q5).1,hk',ht'⟩
  intro k k' b f t f' t' hk hk' ht ht' hl hl';by_cases e:k=σ.ns<;>by_cases e':k'=σ.ns;·omega
  ·subst e;have:G'.τ σ.ns=some (w.heap.size,vs.length,vs.length+rest.length):=yH _ _ _;rw[this]at ht;cases ht;exact absurd (key k' _ _ _ e' hk' ht' hl').1 (Nat.lt_irrefl _)
  ·subst e';have:G'.τ σ.ns=some (w.heap.size,vs.length,vs.length+rest.length):=yH _ _ _;rw[this]at ht';cases ht';exact absurd (key k _ _ _ e hk ht hl).1 (Nat.lt_irrefl _)
  ·obtain⟨_,q1,q2⟩:=key k _ _ _ e hk ht hl;obtain⟨_,q3,q4⟩:=key k' _ _ _ e' hk' ht' hl';exact h.ownd k k' b f t f' t' q1 q3 q2 q4 hl hl'
 ·refine VC.of_cells cs vs _ _ (VL.mono hE _ _ hv) (λi hi=>.inr ⟨rfl,Nat.zero_le _,by omega⟩) (λi hi=>?_);simpa using hcell i hi
theorem vQ.setRow{F:Nat->Prop}{a w:World}(h:vQ F a w){g:Nat}(hg:¬F g)(cs:Array Value):vQ F a (w.setRow g cs):=h.trans ⟨rfl,rfl,rfl,by simp[World.setRow],λk hk=>setRow_other w g k cs (λe=>hg (e▸hk))⟩
theorem gV(w:World)(g:Nat)(cs:Array Value):(w.setRow g cs).heap.size=w.heap.size:=by simp[World.setRow]
theorem mW(w:World)(g:Nat)(cs:Array Value){b o:Nat}(h:b≠g):(w.setRow g cs).cell? ⟨b,o,none⟩=w.cell? ⟨b,o,none⟩:=World.cell?_of_block (w:=w) (setRow_other w g b cs h)
theorem wV.setRow{G:Gh}{σ:wT}{w:World}(h:yK G σ w){i b:Nat}(hi:G.ρ i=some b)(cs:Array Value)(hs:∀vs T,w.heap[b]?=some (.cells vs T (0,0))->vs.size<=cs.size):wV G w G (w.setRow b cs):=⟨λ_ _ e=>e,λ_ _ e=>e,λ_ _ e=>e,λc o e=>mW w b cs (λec=>(h.live c o e).2 i (ec▸hi)),rfl,rfl,λ_ _ e=>.inl e,λj c m _ r=>by
 by_cases e:c=b
 ·subst e;obtain⟨vs,T,h1,h2⟩:=r;exact⟨cs,T,setRow_heap w c vs _ T _ h1,Nat.le_trans h2 (hs _ _ h1)⟩
 ·exact r.same (setRow_other w b c _ e),λ_ e=>e⟩
theorem yK.setRowX{G:Gh}{σ:wT}{w:World}(h:yK G σ w){i b:Nat}(hi:G.ρ i=some b)(hd:σ.H i≠some .dead)(vs:List Value)(hs:∀old T,w.heap[b]?=some (.cells old T (0,0))->old.size<=vs.toArray.size)(Z:yM)(hZ:vN G (w.setRow b vs.toArray) b Z):yK G ⟨up σ.H i Z,σ.own,σ.ns⟩ (w.setRow b vs.toArray):=by
 have hE:=wV.setRow h hi vs.toArray hs;obtain⟨X,hX⟩:=h.has hi;have hBb:=(h.blk i b X hi hX).1;refine⟨?_,?_,h.inj_up hd Z,?_,?_,h.τns,?_,h.ownd,vQ.setRow h.below hBb _,λk hk=>by rw[gV];exact h.base k hk⟩;·exact h.dom_up hi _
 ·obtain⟨N,hN⟩:=h.fin;refine⟨max N (i+1),λj hj=>?_⟩;show up σ.H i _ j=none;rw[xA _ _ (by omega)];exact hN j (by omega)
 ·intro j c Y hj hY;by_cases e:j=i
  ·subst e;rw[hi]at hj;cases hj;simp only[yH,Option.some.injEq]at hY;subst hY;exact⟨hBb,hZ⟩
  ·rw[show(⟨up σ.H i Z,σ.own,σ.ns⟩:wT).H j=σ.H j from xA _ _ e]at hY;obtain⟨h1,h3⟩:=h.blk j c Y hj hY;by_cases ec:c=b
   ·rcases h.inj j i b (ec▸hj) hi with q|q|q;·exact(e q).elim
    ·rw[q]at hY;cases hY;exact⟨h1,by show c<_;rw[gV];exact h3⟩
    ·exact(hd q).elim
   ·exact⟨h1,vN.mono hE (setRow_other w b c _ ec) h3⟩
 ·intro c o hL;obtain⟨⟨v,hv⟩,h2⟩:=h.live c o hL;exact⟨⟨v,(hE.cell c o hL).trans hv⟩,h2⟩
 ·intro k hk;obtain⟨c,f,t,h1,h2|⟨h2,h3,h4,vs',T',h5,h6⟩⟩:=h.own k hk;·exact⟨c,f,t,h1,.inl h2⟩
  exact⟨c,f,t,h1,.inr ⟨h2,h3,h4,vs',T',(setRow_other w b c _ (λe=>h3 i (e▸hi))).trans h5,h6⟩⟩
theorem yK.setRow{G:Gh}{σ:wT}{w:World}(h:yK G σ w){i b:Nat}(hi:G.ρ i=some b)(hd:σ.H i≠some .dead)(vs:List Value)(cs:List AV){old:Array Value}{T:TypeId}(hs:old.size<=vs.length)(hb:w.heap[b]?=some (.cells old T (0,0)))(hv:gT G w cs vs):yK G ⟨up σ.H i (.cells cs),σ.own,σ.ns⟩ (w.setRow b vs.toArray):=have hs':∀old T,w.heap[b]?=some (.cells old T (0,0))->old.size<=vs.toArray.size:=λo' T' e=>by rw[hb]at e;cases e;simpa using hs
 h.setRowX hi hd vs hs' (.cells cs) ⟨vs.toArray,T,setRow_heap w b old _ T _ hb,by simpa using hv.imp (VL.mono (wV.setRow h hi vs.toArray hs') _)⟩
theorem yK.setRowR{G:Gh}{σ:wT}{w:World}(h:yK G σ w){i b:Nat}(hi:G.ρ i=some b)(hd:σ.H i≠some .dead)(vs:List Value)(cs:List AV){old:Array Value}{T:TypeId}(hs:old.size<=vs.length)(hb:w.heap[b]?=some (.cells old T (0,0)))(hv:gT G w cs vs):yK G ⟨up σ.H i (.row cs),σ.own,σ.ns⟩ (w.setRow b vs.toArray):=have hs':∀old T,w.heap[b]?=some (.cells old T (0,0))->old.size<=vs.toArray.size:=λo' T' e=>by rw[hb]at e;cases e;simpa using hs
 h.setRowX hi hd vs hs' (.row cs) ⟨vs.toArray,T,setRow_heap w b old _ T _ hb,by simpa using hv.imp (VL.mono (wV.setRow h hi vs.toArray hs') _)⟩
theorem yK.setObj{G:Gh}{σ:wT}{w:World}(h:yK G σ w){i b:Nat}(hi:G.ρ i=some b)(o o':Obj)(ho:zCB o')(hX:σ.H i=some (.obj o)):let w':World:={w with heap:=w.heap.setIfInBounds b o'}
  wV G w G w'/\yK G ⟨up σ.H i (.obj o'),σ.own,σ.ns⟩ w':=by
 intro w';have hlt:=h.ρ_lt hi;have hother:∀c,c≠b->w'.heap[c]?=w.heap[c]?:=λc hc=>by show(w.heap.setIfInBounds b o')[c]?=_;rw[Array.getElem?_setIfInBounds_ne (λe=>hc e.symm)]
 have hE:wV G w G w':=⟨λ_ _ e=>e,λ_ _ e=>e,λ_ _ e=>e,λc o e=>World.cell?_of_block (w:=w) (hother c (λec=>(h.live c o e).2 i (ec▸hi))),rfl,rfl,λ_ _ e=>.inl e,λj c m _ r=>by
   by_cases ec:c=b
   ·subst ec;obtain⟨q1,q2⟩:=(h.blk i c _ hi hX).2;obtain⟨vs,T,h1,_⟩:=r;rw[q1]at h1;cases h1;exact q2.elim
   ·exact r.same (hother c ec),λ_ e=>e⟩;have hBb:=(h.blk i b _ hi hX).1;have hd:σ.H i≠some .dead:=by rw[hX];simp
 refine⟨hE,?_,?_,h.inj_up hd _,?_,?_,h.τns,?_,h.ownd,h.below.trans ⟨rfl,rfl,rfl,by simp[w'],λk hk=>hother k (λe=>hBb (e▸hk))⟩,λk hk=>by simpa[w']using h.base k hk⟩;·exact h.dom_up hi _
 ·obtain⟨N,hN⟩:=h.fin;refine⟨max N (i+1),λj hj=>?_⟩;show up σ.H i _ j=none;rw[xA _ _ (by omega)];exact hN j (by omega)
 ·intro j c Y hj hY;by_cases e:j=i
  ·subst e;rw[hi]at hj;cases hj;simp only[yH,Option.some.injEq]at hY;subst hY;refine⟨hBb,?_,ho⟩;show(w.heap.setIfInBounds b o')[b]?=_;rw[Array.getElem?_setIfInBounds_self_of_lt hlt]
  ·rw[show(⟨up σ.H i (.obj o'),σ.own,σ.ns⟩:wT).H j=σ.H j from xA _ _ e]at hY;obtain⟨h1,h3⟩:=h.blk j c Y hj hY;by_cases ec:c=b
   ·rcases h.inj j i b (ec▸hj) hi with q|q|q;·exact(e q).elim
    ·rw[q]at hY;cases hY;have h4:c<w.heap.size:=h3;exact⟨h1,by show c<w'.heap.size;simpa[w']using h4⟩
    ·exact(hd q).elim
   ·exact⟨h1,vN.mono hE (hother c ec) h3⟩
 ·intro c o hL;obtain⟨⟨v,hv⟩,h2⟩:=h.live c o hL;exact⟨⟨v,(hE.cell c o hL).trans hv⟩,h2⟩
 ·intro k hk;obtain⟨c,f,t,h1,h2|⟨h2,h3,h4,vs',T',h5,h6⟩⟩:=h.own k hk;·exact⟨c,f,t,h1,.inl h2⟩
  exact⟨c,f,t,h1,.inr ⟨h2,h3,h4,vs',T',(hother c (λe=>h3 i (e▸hi))).trans h5,h6⟩⟩
theorem yK.appendIn{G:Gh}{σ:wT}{w:World}(h:yK G σ w)(cs:List AV)(vs:List Value)(hv:VL G w cs vs){k b f t:Nat}(hk:σ.own k=true)(ht:G.τ k=some (b,f,t))(hft:f<t)(hroom:f+vs.length<=t){cur:Array Value}{T:TypeId}(hb:w.heap[b]?=some (.cells cur T (0,0))):let G':=(G.addL b f (f+vs.length)).addτ σ.ns (b,f+vs.length,t)
  let w':=w.setRow b (cur.toList.take f++vs++cur.toList.drop (f+vs.length)).toArray
  wV G w G' w'/\yK G' (σ.stamp (some k) true) w'/\VC G' w' cs b f:=by
 intro G' w';obtain⟨b',f',t',q1,q2|⟨hB,hρ,hL0,cur',T',hb',hsz⟩⟩:=h.own k hk;·rw[ht]at q1;cases q1;omega
 rw[ht]at q1;cases q1;rw[hb]at hb';cases hb';have hklt:=h.own_lt hk;have hw':w'.heap[b]?=some (.cells (cur.toList.take f++vs++cur.toList.drop (f+vs.length)).toArray T (0,0)):=setRow_heap w b cur _ T _ hb;have hlen:(cur.toList.take f++vs++cur.toList.drop (f+vs.length)).length=cur.size:=by simp;omega
 have hcell:∀i(hi:i<vs.length),w'.cell? ⟨b,f+i,none⟩=some vs[i]:=by intro i hi;simp only[World.cell?,hw'];simp only[Option.isSome_none,Bool.false_eq_true,if_false,List.getElem?_toArray];rw[List.append_assoc,List.getElem?_append_right (by simp;omega),List.getElem?_append_left (by simp;omega)];simp only[List.length_take,Array.length_toList];rw[show f+i-min f cur.size=i by omega];simp[hi]
 have hold:∀o,o<f->w'.cell? ⟨b,o,none⟩=w.cell? ⟨b,o,none⟩:=by intro o ho;simp only[World.cell?,hw',hb];simp only[Option.isSome_none,Bool.false_eq_true,if_false,List.getElem?_toArray];rw[List.append_assoc,List.getElem?_append_left (by simp;omega)];simp[ho]
 have hE:wV G w G' w':=by
  refine⟨λ_ _ e=>e,λ_ _ e=>gU (h.τns _ (Nat.le_refl _)) e,λ_ _ e=>.inl e,λc o e=>?_,rfl,rfl,λ_ _ e=>e.elim .inl λq=>.inr (by rw[q.1];exact hB),λi c m hi r=>r.same (setRow_other w b c _ (λec=>hρ i (ec▸hi))),λ_ e=>e⟩;by_cases hc:c=b
  ·subst hc;rcases Nat.lt_or_ge o f with ho|ho;·exact hold o ho
   ·rcases Nat.lt_or_ge o t with ho2|ho2;·exact absurd e (hL0 o ho ho2)
    ·simp only[World.cell?,hw',hb];simp only[Option.isSome_none,Bool.false_eq_true,if_false,List.getElem?_toArray];rw[List.getElem?_append_right (by simp;omega)];simp only[List.length_append,List.length_take,Array.length_toList,List.getElem?_drop];rw[show f+vs.length+(o-(min f cur.size+vs.length))=o by omega];simp
  ·exact mW w b _ hc
 have hblk:∀c,c≠b->w'.heap[c]?=w.heap[c]?:=λc hc=>setRow_other w b c _ hc;refine⟨hE,⟨h.dom,h.fin,h.inj,?_,?_,?_,?_,?_,vQ.setRow h.below hB _,λk hk=>by rw[gV];exact h.base k hk⟩,?_⟩
 ·intro i c X hi hX;obtain⟨h1,h3⟩:=h.blk i c X hi hX;exact⟨h1,vN.mono hE (hblk c (λe=>hρ i (e▸hi))) h3⟩
 ·intro c o hL;rcases hL with hL|⟨rfl,h1,h2⟩;·obtain⟨⟨v,hv⟩,h2⟩:=h.live c o hL;exact⟨⟨v,(hE.cell c o hL).trans hv⟩,h2⟩
  ·have:=hcell (o-f) (by omega);rw[show f+(o-f)=o by omega]at this;exact⟨⟨_,this⟩,hρ⟩
 ·intro j hj;have hj':σ.ns+1<=j:=by simpa[wT.stamp]using hj
  show up G.τ σ.ns _ j=none;rw[xA _ _ (by omega)];exact h.τns j (by omega)
 ·intro j hj;by_cases e:j=σ.ns
  ·subst e;refine⟨b,f+vs.length,t,yH _ _ _,.inr ⟨hB,hρ,λo ho ho2 hL=>?_,_,T,hw',by rw[List.size_toArray,hlen];exact hsz⟩⟩;rcases hL with hL|⟨_,_,hlt⟩;·exact hL0 o (by omega) ho2 hL
   ·omega
  ·have hj':j≠k/\σ.own j=true:=by
    by_cases ej:j=k;·subst ej;simp[wT.stamp,e]at hj
    ·have ek:¬k=j:=λx=>ej x.symm;exact⟨ej,by simpa[wT.stamp,e,ek]using hj⟩
   obtain⟨c,f',t',h1,h2'⟩:=h.own j hj'.2;rcases h2' with h2'|⟨h2,h3,h4,vs',T',h5,h6⟩;·exact⟨c,f',t',(xA _ _ e).trans h1,.inl h2'⟩
   by_cases hcb:c=b
   ·have h5b:w.heap[b]?=some (.cells vs' T' (0,0)):=hcb▸h5;rw[hb]at h5b;cases h5b;have hemp:t'<=f':=by
     rcases Nat.lt_or_ge f' t' with hl|hl;·exact absurd (h.ownd j k c f' t' f t hj'.2 hk h1 (hcb▸ht) hl hft) hj'.1
     ·exact hl
    exact⟨c,f',t',(xA _ _ e).trans h1,.inr ⟨h2,h3,λo ho hlt _=>by omega,_,T,by rw[hcb];exact hw',by rw[List.size_toArray,hlen];exact h6⟩⟩
   refine⟨c,f',t',(xA _ _ e).trans h1,.inr ⟨h2,h3,λo ho hlt hL=>?_,vs',T',(hblk c hcb).trans h5,h6⟩⟩;rcases hL with hL|⟨e',_,_⟩;·exact h4 o ho hlt hL
   ·exact hcb e'
 ·have key:∀j c f' t',j≠σ.ns->(σ.stamp (some k) true).own j=true->G'.τ j=some (c,f',t')->f'<t'->c≠b/\σ.own j=true/\G.τ j=some (c,f',t'):=by
   intro j c f' t' e hj ht' hl;have hj':j≠k/\σ.own j=true:=by
    by_cases ej:j=k;·subst ej;simp[wT.stamp,e]at hj
    ·have ek:¬k=j:=λx=>ej x.symm;exact⟨ej,by simpa[wT.stamp,e,ek]using hj⟩
   have ht2:G.τ j=some (c,f',t'):=(xA _ _ e).symm.trans ht';refine⟨?_,hj'.2,ht2⟩;rintro rfl;exact hj'.1 (h.ownd j k c f' t' f t hj'.2 hk ht2 ht hl hft)
  intro j j' c f1 t1 f2 t2 hj hj' h1 h2 l1 l2;have hnew:G'.τ σ.ns=some (b,f+vs.length,t):=yH _ _ _;by_cases e:j=σ.ns<;>by_cases e':j'=σ.ns;·omega
  ·subst e;rw[hnew]at h1;cases h1;exact absurd rfl (key j' _ _ _ e' hj' h2 l2).1
  ·subst e';rw[hnew]at h2;cases h2;exact absurd rfl (key j _ _ _ e hj h1 l1).1
  ·obtain⟨_,q1,q2⟩:=key j _ _ _ e hj h1 l1;obtain⟨_,q3,q4⟩:=key j' _ _ _ e' hj' h2 l2;exact h.ownd j j' c f1 t1 f2 t2 q1 q3 q2 q4 l1 l2
 ·exact VC.of_cells cs vs _ _ (VL.mono hE _ _ hv) (λi hi=>.inr ⟨rfl,by omega,by omega⟩) hcell
theorem yK.alloc_full{G:Gh}{σ:wT}{w:World}(h:yK G σ w)(cs:List AV)(vs:List Value)(T:TypeId)(hv:VL G w cs vs):let G':=G.addL w.heap.size 0 vs.length
  let w':=w.alloc (.cells vs.toArray T)
  wV G w G' w'/\yK G' σ w'/\VC G' w' cs w.heap.size 0:=by
 intro G' w';have hcell:∀i(hi:i<vs.length),w'.cell? ⟨w.heap.size,i,none⟩=some vs[i]:=by intro i hi;show(w.alloc _).cell? _=_;rw[World.cell?_alloc_new];simp[hi]
 have hE:wV G w G' w':=⟨λ_ _ e=>e,λ_ _ e=>e,λ_ _ e=>.inl e,λb o e=>World.cell?_alloc_lt w _ ⟨b,o,none⟩ (h.L_lt e),rfl,rfl,λ_ _ e=>e.elim .inl λq=>.inr (by rw[q.1];exact h.fnew),λ_ _ _ _ r=>r.alloc _,λ_ e=>e⟩;refine⟨hE,⟨h.dom,h.fin,h.inj,?_,?_,h.τns,?_,h.ownd,h.below.alloc h.base _,λk hk=>Nat.lt_of_lt_of_le (h.base k hk) (show w.heap.size<=(w.alloc _).heap.size by simp)⟩,?_⟩
 ·intro i b X hi hX;obtain⟨h1,h3⟩:=h.blk i b X hi hX;exact⟨h1,vN.mono hE (sV w _ (h.ρ_lt hi)) h3⟩
 ·intro b o hL;rcases hL with hL|⟨rfl,_,hlt⟩
  ·obtain⟨⟨v,hv⟩,h2⟩:=h.live b o hL;exact⟨⟨v,(World.cell?_alloc_lt w _ _ (h.L_lt hL)).trans hv⟩,h2⟩
  ·exact⟨⟨_,hcell o (by omega)⟩,λi hi=>absurd (h.ρ_lt hi) (Nat.lt_irrefl _)⟩
 ·intro k hk;obtain⟨b,f,t,h1,h2|⟨h2,h3,h4,vs',T',h5,h6⟩⟩:=h.own k hk;·exact⟨b,f,t,h1,.inl h2⟩
  have hlt:b<w.heap.size:=(Array.getElem?_eq_some_iff.1 h5).1;refine⟨b,f,t,h1,.inr ⟨h2,h3,λo ho ht hL=>?_,vs',T',(sV w _ hlt).trans h5,h6⟩⟩;rcases hL with hL|⟨e,_,_⟩;·exact h4 o ho ht hL
  ·omega
 ·refine VC.of_cells cs vs _ _ (VL.mono hE _ _ hv) (λi hi=>.inr ⟨rfl,Nat.zero_le _,by omega⟩) (λi hi=>?_);simpa using hcell i hi
theorem yK.drop{G:Gh}{σ:wT}{w:World}(h:yK G σ w)(own':Nat->Bool)(ho:∀k,own' k=true->σ.own k=true):yK G ⟨σ.H,own',σ.ns⟩ w:=⟨h.dom,h.fin,h.inj,h.blk,h.live,h.τns,λk hk=>h.own k (ho k hk),λk k' b f t f' t' hk hk'=>h.ownd k k' b f t f' t' (ho k hk) (ho k' hk'),h.below,h.base⟩
structure LA where
 ev:Operand->AV
 rd:List (Nat×yM):=[]wr:List (Nat×yM×yM):=[]al:List (Nat×yM):=[]use:List Nat:=[]ns:Nat:=0
 new:Nat:=0
 lo:Nat:=0
 hi:Nat:=0
 st:Bool:=false
 rc:List (Nat×Nat×AV):=[]kp:List (Nat×Nat):=[]v:AV
def pL:yM->Nat->Option AV|.cells cs,k=>cs[k]?|_,_=>none
def gR(H:Nat->Option yM):List (Nat×yM)->Nat->Option yM|[]=>H|p::l=>up (gR H l) p.1 p.2
def wT.stamps(σ:wT)(use:List Nat)(new:Nat):wT:=⟨σ.H,λk=>if σ.ns<=k/\k<σ.ns+new then true else if k∈use then false else σ.own k,σ.ns+new⟩
def LA.app(la:LA)(σ:wT):wT:=(wT.mk (gR (gR σ.H (la.wr.map λp=>(p.1,p.2.2))) la.al) σ.own σ.ns).stamps la.use la.new
structure LA.can(la:LA)(σ:wT):Prop where
 rd:∀i X,(i,X)∈la.rd->σ.H i=some X
 wr:∀i X Y,(i,X,Y)∈la.wr->σ.H i=some X
 al:∀i X,(i,X)∈la.al->σ.H i=none
 use:∀k,k∈la.use->σ.own k=true
 ns:la.use≠[]\/la.new≠0\/la.st=true->la.ns=σ.ns
 hole:∀i,la.lo<=i->i<la.hi->σ.H i=none
 rc:∀i k v,(i,k,v)∈la.rc->∃X,σ.H i=some X/\pL X k=some v
 kp:∀i k X Y,(i,k)∈la.kp->(i,X,Y)∈la.wr->pL X k=pL Y k
def xW(P:Program)(o:Oper)(la:LA):Prop:=∀(G:Gh)(σ:wT)(w:World)(a:Act)(K:Act->World->Prop)(Q:Exit->Act->World->Prop),yK G σ w->(∀x∈o.op.operands,V G w (la.ev x) (a.eval x))->la.can σ->(∀(u:Value)(G':Gh)(w':World),wV G w G' w'->yK G' (la.app σ) w'->V G' w' la.v u->K (a.put o.dst u) w')->o.wp P a w K Q
theorem wT.stamps_zero(σ:wT):σ.stamps [] 0=σ:=by cases σ;simp only[wT.stamps,Nat.add_zero,List.not_mem_nil,if_false];congr 1;funext k;rw[if_neg (by omega)]
theorem xW.value{P:Program}{o:Oper}{la:LA}(h:∀(G:Gh)(σ:wT)(w:World)(a:Act),yK G σ w->(∀x∈o.op.operands,V G w (la.ev x) (a.eval x))->la.can σ->∃u w' G',(execOp a.eval o).run P w=.ok (.value u) w'/\wV G w G' w'/\yK G' (la.app σ) w'/\V G' w' la.v u):xW P o la:=by intro G σ w a K Q hR hx hc hK;obtain⟨u,w',G',hr,hE,hR',hv⟩:=h G σ w a hR hx hc;unfold Oper.wp;rw[hr];exact hK u G' w' hE hR' hv
theorem xW.skip{P:Program}{o:Oper}{la:LA}(hv:la.v=.val undef)(h:∀(G:Gh)(σ:wT)(w:World)(a:Act),yK G σ w->(∀x∈o.op.operands,V G w (la.ev x) (a.eval x))->la.can σ->∃w' G',(execOp a.eval o).run P w=.ok .skip w'/\wV G w G' w'/\yK G' (la.app σ) w'):xW P o la:=by intro G σ w a K Q hR hx hc hK;obtain⟨w',G',hr,hE,hR'⟩:=h G σ w a hR hx hc;unfold Oper.wp;rw[hr];exact hK undef G' w' hE hR' (by rw[hv];simp[V])
theorem xW.pure{P:Program}{o:Oper}{ev:Operand->AV}{v:AV}(h:∀(G:Gh)(w:World)(a:Act),(∀x∈o.op.operands,V G w (ev x) (a.eval x))->∃u,(execOp a.eval o).run P w=.ok (.value u) w/\V G w v u):xW P o {ev:=ev,v:=v}:=by refine xW.value λG σ w a hR hx _=>?_;obtain⟨u,hr,hv⟩:=h G w a hx;refine⟨u,w,G,hr,wV.refl G w,?_,hv⟩;show yK G ((wT.mk σ.H σ.own σ.ns).stamps [] 0) w;rw[wT.stamps_zero];exact hR
theorem xW.reads{P:Program}{o:Oper}{ev:Operand->AV}{v:AV}{rd:List (Nat×yM)}(h:∀(G:Gh)(σ:wT)(w:World)(a:Act),yK G σ w->(∀x∈o.op.operands,V G w (ev x) (a.eval x))->(∀i X,(i,X)∈rd->σ.H i=some X)->∃u,(execOp a.eval o).run P w=.ok (.value u) w/\V G w v u):xW P o {ev:=ev,rd:=rd,v:=v}:=by refine xW.value λG σ w a hR hx hc=>?_;obtain⟨u,hr,hv⟩:=h G σ w a hR hx hc.rd;refine⟨u,w,G,hr,wV.refl G w,?_,hv⟩;show yK G ((wT.mk σ.H σ.own σ.ns).stamps [] 0) w;rw[wT.stamps_zero];exact hR
def ofV:Nat->Value->AV|0,v=>.val v|n+1,v=>match v with|.slice none 0 0=>.sl [] 0 .nl|.agg cs=>.agg (cs.toList.map (ofV n))|.tuple cs=>.tup (cs.toList.map (ofV n))|.func (.func f) fs cs=>.clo f (fs.toList.map (ofV n)) (cs.toList.map (ofV n))|v=>.val v
theorem VL.map_ofV{G:Gh}{w:World}{f:Value->AV}(h:∀v,V G w (f v) v):∀vs:List Value,VL G w (vs.map f) vs|[]=>by simp[VL]|v::vs=>by simp only[List.map_cons,VL];exact⟨h v,VL.map_ofV h vs⟩
theorem V.ofV{G:Gh}{w:World}:∀(n:Nat)(v:Value),V G w (ofV n v) v
 |0,v=>by simp[Ab.ofV,V]|n+1,v=>by
  simp only[Ab.ofV];split;·simp[V,Own.nil,jY]
  ·rename_i cs;simp only[V];exact⟨cs.toList,by simp,VL.map_ofV (V.ofV n) _⟩
  ·rename_i cs;simp only[V];exact⟨cs.toList,by simp,VL.map_ofV (V.ofV n) _⟩
  ·rename_i f fs cs;simp only[V];exact⟨fs.toList,cs.toList,by simp,VL.map_ofV (V.ofV n) _,VL.map_ofV (V.ofV n) _⟩
  ·simp[V]
def eget:List AV->Nat->AV|[],_=>.val undef|a::_,0=>a|_::r,n+1=>eget r n
def aev(env:List AV):Operand->AV|.tmp t=>eget env t|.const v=>ofV 8 v|.global g=>.val (.pointer (some ⟨g,0,none⟩))|.func f=>.clo f [] []
theorem V.eget{G:Gh}{w:World}:∀(env:List AV)(us:List Value),VL G w env us->∀t,V G w (eget env t) (us.getD t undef)|[],[],_,t=>by simp[Ab.eget,V]|a::as0,u::us,h,0=>by simp only[VL]at h;simpa[Ab.eget]using h.1|a::as0,u::us,h,n+1=>by simp only[VL]at h;simpa[Ab.eget]using V.eget as0 us h.2 n|[],_::_,h,_=>by simp only[VL]at h|_::_,[],h,_=>by simp only[VL]at h
theorem V.aev{G:Gh}{w:World}{env:List AV}{a:Act}(h:VL G w env a.tmps.toList):∀x,V G w (aev env x) (a.eval x)|.tmp t=>by have:=V.eget env _ h t;simpa[Ab.aev,Act.eval]using this|.const v=>by simpa[Ab.aev,Act.eval]using V.ofV 8 v|.global g=>by simp[Ab.aev,Act.eval,V]|.func f=>by simp only[Ab.aev,Act.eval,V];exact⟨[],[],rfl,by simp[VL],by simp[VL]⟩
def rG:AV->List AV|.agg cs=>cs|v=>[v]
def AV.one:AV->Bool|.agg _|.tup _=>false|.val v=>v.oneCell'|_=>true
def AV.sound:AV->Bool|.agg cs=>cs.all AV.one|v=>v.one
theorem V.one{G:Gh}{w:World}{a:AV}{u:Value}(h:V G w a u)(ho:a.one=true):u.oneCell'=true:=by
 cases a<;>simp only[V]at h;case val v=>subst h;exact ho
 case agg=>cases ho
 case tup=>cases ho
 case sl es n o=>
  obtain⟨cap,_,h|⟨b,off,rfl,_⟩⟩:=h;·rw[h.2.2.2.1];rfl
  ·rfl
 case ip=>obtain⟨b,off,rfl,_⟩:=h;rfl
 case mp=>obtain⟨b,_,rfl⟩:=h;rfl
 case ms=>rcases h with⟨b,cap,_,_,o,rfl,_⟩|⟨_,_,p,rfl⟩<;>rfl
 case obj=>obtain⟨b,_,rfl⟩:=h;rfl
 case clo=>obtain⟨l,r,rfl,_⟩:=h;rfl
theorem zLs{u:Value}(h:u.oneCell'=true):u.cells=#[u]:=by cases u<;>first|rfl|cases h
theorem VL.all_one{G:Gh}{w:World}:∀(as0:List AV)(us:List Value),VL G w as0 us->as0.all AV.one=true->∀u∈us,u.oneCell'=true
 |[],[],_,_=>by simp|a::as0,u::us,h,ho=>by
  simp only[VL]at h;simp only[List.all_cons,Bool.and_eq_true]at ho;intro x hx;rcases List.mem_cons.1 hx with rfl|hx;·exact h.1.one ho.1
  ·exact VL.all_one as0 us h.2 ho.2 x hx|[],_::_,h,_=>by simp only[VL]at h|_::_,[],h,_=>by simp only[VL]at h
theorem V.cells{G:Gh}{w:World}{a:AV}{u:Value}(h:V G w a u)(ho:a.sound=true):VL G w (rG a) u.cells.toList/\∀x∈u.cells.toList,x.oneCell'=true:=by cases a with|agg cs=>simp only[V]at h;obtain⟨vs,rfl,hl⟩:=h;exact⟨by simpa[rG,Value.cells]using hl,by simpa[Value.cells]using VL.all_one _ _ hl ho⟩|_=>have h1:=h.one ho;rw[zLs h1];simp only[rG,VL];exact⟨⟨h,trivial⟩,by simpa using h1⟩
def zHh:TypeDesc->Bool|.struct _|.array _ _=>true|_=>false
def tsz(P:Program)(t:TypeId):Option (Bool×Nat):=match P.underlying t,P.info? t with|some d,some i=>some (zHh d,i.size)|_,_=>none
theorem oE{P:Program}{t:TypeId}{d:TypeDesc}(h:P.underlying t=some d)(w:World):(isAgg t).run P w=.ok (zHh d) w:=by unfold isAgg;simp only[Sem.run_bind,run_underlying h,Result.andThen_ok];cases d<;>rfl
theorem wB{P:Program}{t:TypeId}{i:TypeInfo}(h:P.info? t=some i)(w:World):(sizeOf t).run P w=.ok i.size w:=by simp[sizeOf,typeInfo,h]
theorem rJ{P:Program}{t:TypeId}{i:TypeInfo}{z:Value}(h:P.info? t=some i)(hz:i.zero=some z)(w:World):(zeroValue t).run P w=.ok z w:=by simp[zeroValue,typeInfo,h,hz]
def qU(q:Bool×Nat)(cs:List AV):Option AV:=match q with|(true,n)=>bif Nat.ble n cs.length then some (.agg (cs.take n))else none|(false,_)=>match cs with|c::_=>some c|[]=>none
def splice(cs:List AV)(off:Nat)(news:List AV):List AV:=cs.take off++news++cs.drop (off+news.length)
theorem gW:∀(l:List Value)(off j:Nat)(cs:Array Value),off+j+l.length<=cs.size->((l.zipIdx j).foldl (λcs(x:Value×Nat)=>cs.setIfInBounds (off+x.2) x.1) cs).toList=cs.toList.take (off+j)++l++cs.toList.drop (off+j+l.length)|[],off,j,cs,_=>by simp|v::l,off,j,cs,h=>by simp only[List.zipIdx_cons,List.foldl_cons];rw[gW l off (j+1) _ (by simp at h⊢;omega)];have e:=list_seg_step cs.toList (off+j) v l (by simp at h⊢;omega);simpa[Array.toList_setIfInBounds,Nat.add_assoc]using e
def Y4(place:Nat->Option (Nat×Nat))(cells:List AV):List (Nat×AV)->Option (List AV)|[]=>some cells|(i,v)::rest=>match place i with|none=>none|some (off,size)=>bif v.sound&&Nat.beq (rG v).length size&&Nat.ble (off+size) cells.length then Y4 place (splice cells off (rG v)) rest else none
theorem VL.splice{G:Gh}{w:World}{cs:List AV}{vs:List Value}{news:List AV}{nvs:List Value}(h:VL G w cs vs)(hn:VL G w news nvs)(off:Nat):VL G w (splice cs off news) (vs.take off++nvs++vs.drop (off+nvs.length)):=by unfold Ab.splice;rw[VL.length _ _ hn];exact VL.append _ _ _ _ (VL.append _ _ _ _ (VL.take _ _ _ h) hn) (VL.drop _ _ _ h)
theorem gT.splice{G:Gh}{w:World}{cs:List AV}{l:List Value}{news:List AV}{nvs:List Value}(h:gT G w cs l)(hn:VL G w news nvs)(off:Nat)(hb:off+news.length<=cs.length):gT G w (Ab.splice cs off news) (l.take off++nvs++l.drop (off+nvs.length)):=by obtain⟨us,rest,rfl,hv⟩:=h;have h1:=VL.length _ _ hv;have h2:=VL.length _ _ hn;refine⟨us.take off++nvs++us.drop (off+nvs.length),rest,?_,VL.splice hv hn off⟩;rw[List.take_append_of_le_length (by omega),List.drop_append_of_le_length (by omega)];simp only[List.append_assoc]
inductive VP(G:Gh)(w:World):List (Nat×AV)->List (Nat×Value)->Prop|nil:VP G w [] []|cons{i:Nat}{a:AV}{u:Value}{as0:List (Nat×AV)}{us:List (Nat×Value)}:V G w a u->VP G w as0 us->VP G w ((i,a)::as0) ((i,u)::us)
theorem C1{G:Gh}{w:World}{place:Nat->Option (Nat×Nat)}:∀(parts:List (Nat×AV))(parts':List (Nat×Value))(cells:List AV)(cells':Array Value)(r:List AV),VP G w parts parts'->VL G w cells cells'.toList->Y4 place cells parts=some r->∃r',Instr.fill place cells' parts'=some r'/\VL G w r r'.toList|[],_,cells,cells',r,hp,hc,h=>by cases hp;simp only[Y4,Option.some.injEq]at h;subst h;exact⟨cells',rfl,hc⟩|(i,a)::rest,_,cells,cells',r,hp,hc,h=>by cases hp with|cons ha hr=>rename_i u us;simp only[Y4]at h;cases hpl:place i with|none=>simp[hpl]at h|some q=>obtain⟨off,size⟩:=q;simp only[hpl]at h;cases hcond:(a.sound&&Nat.beq (rG a).length size&&Nat.ble (off+size) cells.length)with|false=>simp[hcond]at h|true=>
 simp only[hcond,cond_true]at h;simp only[Bool.and_eq_true,Nat.ble_eq]at hcond;obtain⟨⟨h1,h2⟩,h3⟩:=hcond;replace h2:=Nat.eq_of_beq_eq_true h2;obtain⟨hcs,_⟩:=ha.cells h1;have l1:=VL.length _ _ hcs;have l2:=VL.length _ _ hc;have hlen:u.cells.size=size:=by rw[<-h2,<-l1];simp
 have hsz:cells'.size=cells.length:=by rw[<-l2];simp
 have hfold:(u.cells.zipIdx.foldl (λcs(x:Value×Nat)=>cs.setIfInBounds (off+x.2) x.1) cells').toList=cells'.toList.take off++u.cells.toList++cells'.toList.drop (off+u.cells.toList.length):=by have:=gW u.cells.toList off 0 cells' (by simp;omega);simp only[Nat.add_zero]at this;rw[<-this,<-Array.foldl_toList,Array.toList_zipIdx]
 have hvl:=VL.splice hc hcs off;rw[<-hfold]at hvl;obtain⟨r',hr',hv⟩:=C1 rest us _ _ r hr hvl h;refine⟨r',?_,hv⟩;simp only[Instr.fill,hpl];rw[if_neg];·exact hr'
 ·simp[hlen,hsz,h3]
def zCD(P:Program)(t:TypeId):Option (Nat->Option (Nat×Nat)):=match P.underlying t with|some (.array _ e)=>(P.info? e).map λie=>λi=>some (i*ie.size,ie.size)|some (.struct fields)=>(fields.toList.mapM (λf=>(P.info? f.type).map λi=>(f.offset,i.size))).map λplaces=>(places.toArray[·]?)|_=>none
def zHg(P:Program)(t:TypeId)(parts:List (Nat×AV)):Option AV:=match P.info? t,zCD P t with
 |some it,some pl=>match it.zero with|some z=>(Y4 pl (z.cells.toList.map (ofV 8)) parts).map .agg|none=>none
 |_,_=>none
theorem zLr{G:Gh}{w:World}{P:Program}{t:TypeId}{parts:List (Nat×AV)}{parts':Array (Nat×Value)}{r:AV}(hp:VP G w parts parts'.toList)(h:zHg P t parts=some r):∃u,(Instr.build t parts').run P w=.ok u w/\V G w r u:=by unfold zHg at h;cases hi:P.info? t with|none=>simp[hi]at h|some it=>cases hpl:zCD P t with|none=>simp[hi,hpl]at h|some pl=>simp only[hi,hpl]at h;cases hz:it.zero with|none=>simp[hz]at h|some z=>simp only[hz,Option.map_eq_some_iff]at h;obtain⟨cs,hf,rfl⟩:=h;obtain⟨r',hr',hv⟩:=C1 parts parts'.toList _ z.cells cs hp (VL.map_ofV (V.ofV 8) _) hf;refine⟨.agg r',run_build w t parts' r' ?_,by simp only[V];exact⟨r'.toList,by simp,hv⟩⟩;unfold zCD at hpl;unfold Program.built;cases hu:P.underlying t with|none=>simp[hu]at hpl|some d=>
 simp only[hu]at hpl;cases d<;>simp only[reduceCtorEq]at hpl;case array n e=>cases hie:P.info? e with|none=>simp[hie]at hpl|some ie=>simp only[hie,Option.map_some,Option.some.injEq]at hpl;subst hpl;simp[hi,hz,hie,hr']
 case struct fs=>cases hm:fs.toList.mapM (λf=>(P.info? f.type).map λi=>(f.offset,i.size))with|none=>simp[hm]at hpl|some pls=>simp only[hm,Option.map_some,Option.some.injEq]at hpl;subst hpl;simp only[hi,hz,hm];exact hr'
def zYB(op:BinOp)(x y:AV):Option AV:=match x,y with
 |.val (.int k a),.val (.int k' b)=>if k=k' then match op with|.add=>some (.val (.int k (k.wrap (a+b))))|.sub=>some (.val (.int k (k.wrap (a-b))))|.mul=>some (.val (.int k (k.wrap (a*b))))|.eql=>some (.val (.bool (a==b)))|.neq=>some (.val (.bool (a !=b)))|.lss=>some (.val (.bool (a<b)))|.leq=>some (.val (.bool (a<=b)))|.gtr=>some (.val (.bool (a>b)))|.geq=>some (.val (.bool (a>=b)))|.and=>some (.val (.int k (k.wrap ((BitVec.ofInt k.bits a&&&BitVec.ofInt k.bits b).toNat:Nat))))|.or=>some (.val (.int k (k.wrap ((BitVec.ofInt k.bits a|||BitVec.ofInt k.bits b).toNat:Nat))))|.quo=>if b=0 then none else some (.val (.int k (k.wrap (a.tdiv b))))|.rem=>if b=0 then none else some (.val (.int k (a.tmod b)))|.shl=>if b<0 then none else some (.val (.int k (k.wrap (a*2^(min b.toNat k.bits)))))|.shr=>if b<0 then none else some (.val (.int k (a.fdiv (2^(min b.toNat k.bits)))))|_=>none else match op with|.shl=>if b<0 then none else some (.val (.int k (k.wrap (a*2^(min b.toNat k.bits)))))|.shr=>if b<0 then none else some (.val (.int k (a.fdiv (2^(min b.toNat k.bits)))))|_=>none
 |.val (.string a),.val (.string b)=>match op with|.add=>if a.size+b.size<=4294967296 then some (.val (.string (a++b)))else none|.eql=>some (.val (.bool (a.toList==b.toList)))|.neq=>some (.val (.bool (!(a.toList==b.toList))))|_=>none
 |_,_=>none
def zRI(d:TypeDesc)(x y:AV):Option Bool:=match d,x,y with|.bool,.val (.bool a),.val (.bool b)=>some (a==b)|.pointer _,.mp _ _,.val (.pointer none)=>some false|.pointer _,.ip _,.val (.pointer none)=>some false|.pointer _,.val (.pointer none),.val (.pointer none)=>some true|.slice _,.sl _ _ .nl,.sl _ _ .nl=>some true|.slice _,.sl _ _ .nn,.sl _ _ .nl=>some false|.slice _,.ms _ _ _ (_+1) _,.sl _ _ .nl=>some false|.func _ _ _,.clo _ _ _,.val .nilFunc=>some false|.func _ _ _,.val .nilFunc,.val .nilFunc=>some true|_,_,_=>none
def zCE(P:Program)(op:BinOp)(t:TypeId)(x y:AV):Option AV:=match zYB op x y with|some v=>some v|none=>match P.underlying t,op with|some d,.eql=>(zRI d x y).map λb=>.val (.bool b)|some d,.neq=>(zRI d x y).map λb=>.val (.bool (!b))|_,_=>none
theorem sW{P:Program}{t:TypeId}{w:World}{x y:Value}{b:Bool}(he:∀n,(Op.equalIn (n+1) t x y).run P w=.ok b w):(Op.equal t x y).run P w=.ok b w:=he 9999
theorem sJ{P:Program}{G:Gh}{w:World}{m:Sem Value}{X:Value}(h:m.run P w=.ok X w):∃q,m.run P w=.ok q w/\V G w (.val X) q:=⟨X,h,by simp only[V]⟩
theorem zJi{P:Program}{t:TypeId}{d:TypeDesc}{G:Gh}{w:World}{x y:AV}{u v:Value}{b:Bool}(h:P.underlying t=some d)(hu:V G w x u)(hv:V G w y v)(he:zRI d x y=some b):(Op.equal t u v).run P w=.ok b w/\(∀op a c,eqGuard op t a c u v=pure ())/\binOp .eql t u v=(do pure (.bool (<-Op.equal t u v)))/\binOp .neq t u v=(do pure (.bool (!(<-Op.equal t u v)))):=by
 unfold zRI at he;split at he<;>simp only[Option.some.injEq,reduceCtorEq]at he<;>subst he<;>simp only[V]at hu hv
 ·subst hu hv;exact⟨sW λn=>by simp[Op.equalIn,run_underlying h],λop a c=>eqGuard_at_bool op t a c _ _,rfl,rfl⟩
 ·obtain⟨q,_,rfl⟩:=hu;subst hv;exact⟨sW λn=>by simp[Op.equalIn,run_underlying h],λop a c=>eqGuard_at_pointer op t a c _ _,rfl,rfl⟩
 ·obtain⟨q,_,rfl,_⟩:=hu;subst hv;exact⟨sW λn=>by simp[Op.equalIn,run_underlying h],λop a c=>eqGuard_at_pointer op t a c _ _,rfl,rfl⟩
 ·subst hu hv;exact⟨sW λn=>by simp[Op.equalIn,run_underlying h],λop a c=>eqGuard_at_pointer op t a c _ _,rfl,rfl⟩
 ·obtain⟨c1,_,⟨_,_,_,e1,f1⟩|⟨_,_,_,_,hf⟩⟩:=hu
  ·obtain⟨c2,_,⟨_,_,_,e2,f2⟩|⟨_,_,_,_,hf⟩⟩:=hv
   ·simp only[Own.nil]at f1 f2;rw[f1]at e1;rw[f2]at e2;subst e1 e2;exact⟨sW λn=>by simp[Op.equalIn,run_underlying h],λop a c=>eqGuard_at_slice op t a c _ _ _ _,rfl,rfl⟩
   ·exact hf.elim
  ·exact hf.elim
 ·obtain⟨c1,_,⟨_,_,_,e1,a1,f1⟩|⟨_,_,rfl,_⟩⟩:=hu
  ·rw[f1]at e1;subst e1;obtain⟨c2,_,⟨_,_,_,e2,f2⟩|⟨_,_,_,_,hf⟩⟩:=hv
   ·simp only[Own.nil]at f2;rw[f2]at e2;subst e2;exact⟨sW λn=>by simp[Op.equalIn,run_underlying h],λop a c=>eqGuard_at_slice op t a c _ _ _ _,rfl,rfl⟩
   ·exact hf.elim
  ·obtain⟨c2,_,⟨_,_,_,e2,f2⟩|⟨_,_,_,_,hf⟩⟩:=hv
   ·simp only[Own.nil]at f2;rw[f2]at e2;subst e2;exact⟨sW λn=>by simp[Op.equalIn,run_underlying h],λop a c=>eqGuard_at_slice op t a c _ _ _ _,rfl,rfl⟩
   ·exact hf.elim
 ·obtain⟨b,cap,_,_,o,rfl,_⟩|⟨⟨_,h0⟩,_⟩:=hu;case inr=>exact absurd h0 (Nat.succ_ne_zero _)
  obtain⟨c2,_,⟨_,_,_,e2,f2⟩|⟨_,_,_,_,hf⟩⟩:=hv
  ·simp only[Own.nil]at f2;rw[f2]at e2;subst e2;exact⟨sW λn=>by simp[Op.equalIn,run_underlying h],λop a c=>eqGuard_at_slice op t a c _ _ _ _,rfl,rfl⟩
  ·exact hf.elim
 ·obtain⟨q,r,rfl,_⟩:=hu;subst hv;exact⟨sW λn=>by simp[Op.equalIn,run_underlying h],λop a c=>eqGuard_at_func op t a c _ _ _ _,rfl,rfl⟩
 ·subst hu hv;exact⟨sW λn=>by simp[Op.equalIn,run_underlying h],λop a c=>eqGuard_at_nilFunc op t a c _,rfl,rfl⟩
theorem zHf{P:Program}{t:TypeId}{op:BinOp}{G:Gh}{w:World}{x y r:AV}{u v:Value}(hu:V G w x u)(hv:V G w y v)(a c:Operand)(h:zCE P op t x y=some r):∃q,(do eqGuard op t a c u v;binOp op t u v:Sem Value).run P w=.ok q w/\V G w r q:=by
 unfold zCE at h;split at h
 ·rename_i r' hr;cases h;unfold zYB at hr;split at hr
  ·simp only[V]at hu hv;subst hu hv;rename_i k a' k' b';split at hr;·rename_i hk;subst hk;split at hr<;>(try split at hr)<;>simp only[Option.some.injEq,reduceCtorEq]at hr<;>subst hr<;>(refine sJ ?_;simp_all[eqGuard_at_int,binOp,Op.intArith,Op.intCmp,Op.intBits,Op.intDiv,Op.shift]<;>(try(intro hh;omega)))
   ·split at hr<;>(try split at hr)<;>simp only[Option.some.injEq,reduceCtorEq]at hr<;>subst hr<;>(refine sJ ?_;simp_all[eqGuard,binOp,Op.shift]<;>(try(intro hh;omega)))
  ·simp only[V]at hu hv;subst hu hv;rename_i a' b';split at hr
   ·split at hr
    ·rename_i hsz;cases hr;refine sJ ?_;have h63:¬(((a'.size+b'.size:Nat):Int)>IntKind.i64.max):=by simp;omega
     simp only[eqGuard_at_string,Sem.run_bind,Sem.run_pure,Result.andThen_ok,binOp,Op.stringOp];rw[if_neg h63];rfl
    ·cases hr
   ·cases hr;exact sJ (by simp[eqGuard_at_string,binOp,Op.stringOp])
   ·cases hr;exact sJ (by simp[eqGuard_at_string,binOp,Op.stringOp])
   ·cases hr
  ·cases hr
 ·cases hd:P.underlying t with|none=>simp[hd]at h|some d=>
   simp only[hd]at h;split at h
   ·rename_i heq _;simp only[Option.some.injEq]at heq;subst heq;simp only[Option.map_eq_some_iff]at h;obtain⟨b,hb,rfl⟩:=h;obtain⟨h1,h2,h3⟩:=zJi hd hu hv hb;refine⟨.bool b,?_,by simp only[V]⟩;rw[h2,h3.1];simp[h1]
   ·rename_i heq _;simp only[Option.some.injEq]at heq;subst heq;simp only[Option.map_eq_some_iff]at h;obtain⟨b,hb,rfl⟩:=h;obtain⟨h1,h2,h3⟩:=zJi hd hu hv hb;refine⟨.bool (!b),?_,by simp only[V]⟩;rw[h2,h3.2];simp[h1]
   ·cases h
def zNM(P:Program)(xs ys:List AV):List Field->Option Bool|[]=>none|f::fs=>match P.underlying f.type,xs[f.offset]?,ys[f.offset]? with|some (.int _),some (.val (.int k a)),some (.val (.int k' b))=>if k=k'/\f.name≠"_"then match fs with|[]=>some (a==b)|_::_=>(zNM P xs ys fs).map λr=>(a==b)&&r else none|_,_,_=>none
def zNN(P:Program)(t:TypeId)(x y:AV):Option Bool:=match P.underlying t,x,y with|some (.struct fs),.agg xs,.agg ys=>bif P.stoodInHeld t||P.eqGuardType P.depth t then none else zNM P xs ys fs.toList|_,_,_=>none
def zHe(P:Program)(op:BinOp)(t:TypeId)(x y:AV):Option AV:=match zCE P op t x y with|some v=>some v|none=>match op with|.eql=>(zNN P t x y).map λb=>.val (.bool b)|.neq=>(zNN P t x y).map λb=>.val (.bool (!b))|_=>none
theorem zEv{P:Program}{t:TypeId}{k:IntKind}(h:P.underlying t=some (.int k)){xs:Array Value}{off:Nat}{v:Value}(hx:xs[off]?=some v)(w:World):(part t xs off).run P w=.ok v w:=by unfold part;simp only[Sem.run_bind,oE h,zHh,Result.andThen_ok,Bool.false_eq_true,if_false,hx,Sem.run_pure]
theorem zJh{P:Program}{G:Gh}{w:World}{xs ys:List AV}{us vs:List Value}(hx:VL G w xs us)(hy:VL G w ys vs)(d:Nat):∀(fs:List Field)(b:Bool),zNM P xs ys fs=some b->(Op.eqFields (d+1) us.toArray vs.toArray fs).run P w=.ok b w
 |[],b,h=>by cases h|f::fs,b,h=>by
  unfold zNM at h;split at h
  ·rename_i kk k a k' b' hu ha hb;split at h
   ·rename_i hk;obtain⟨rfl,hn⟩:=hk;obtain⟨u,e1,e2⟩:=VL.get _ _ hx _ _ ha;obtain⟨v,e3,e4⟩:=VL.get _ _ hy _ _ hb;simp only[V]at e2 e4;subst e2 e4;have p1:=zEv hu (xs:=us.toArray) (by simpa using e1) w;have p2:=zEv hu (xs:=vs.toArray) (by simpa using e3) w;unfold Op.eqFields;rw[if_pos hn];simp only[Sem.run_bind,p1,p2,Result.andThen_ok,run_equalIn_int w d _ _ _ _ _ hu];cases fs with
    |nil=>cases h;cases hab:(a==b')with|false=>simp|true=>simp[Op.eqFields]
    |cons g fs=>simp only[Option.map_eq_some_iff]at h;obtain⟨r,hr,rfl⟩:=h;cases hab:(a==b')with|false=>simp|true=>simpa using zJh hx hy d (g::fs) r hr
   ·cases h
  ·cases h
theorem zLq{P:Program}{t:TypeId}{x y:AV}{b:Bool}(hb:zNN P t x y=some b):∃fs xs ys,P.underlying t=some (.struct fs)/\x=.agg xs/\y=.agg ys/\P.stoodInHeld t=false/\P.eqGuardType P.depth t=false/\zNM P xs ys fs.toList=some b:=by
 unfold zNN at hb;split at hb;·rename_i fs xs ys ht;cases hc:(P.stoodInHeld t||P.eqGuardType P.depth t)with|true=>rw[hc]at hb;cases hb|false=>rw[hc,cond_false]at hb;rw[Bool.or_eq_false_iff]at hc;exact⟨fs,xs,ys,ht,rfl,rfl,hc.1,hc.2,hb⟩
 ·cases hb
theorem zLp{P:Program}{t:TypeId}{op:BinOp}{G:Gh}{w:World}{x y r:AV}{u v:Value}(hu:V G w x u)(hv:V G w y v)(a c:Operand)(h:zHe P op t x y=some r):∃q,(do eqGuard op t a c u v;binOp op t u v:Sem Value).run P w=.ok q w/\V G w r q:=by
 unfold zHe at h;split at h;·rename_i r' hr;cases h;exact zHf hu hv a c hr
 ·have key:∀b,zNN P t x y=some b->∃us vs:List Value,u=.agg us.toArray/\v=.agg vs.toArray/\P.eqGuardType P.depth t=false/\(Op.equalIn 10000 t (.agg us.toArray) (.agg vs.toArray)).run P w=.ok b w:=by
   intro b hb;obtain⟨fs,xs,ys,ht,rfl,rfl,c1,c2,hb⟩:=zLq hb;simp only[V]at hu hv;obtain⟨us,rfl,h1⟩:=hu;obtain⟨vs,rfl,h2⟩:=hv;have hf:P.fieldsOf t=fs:=by unfold Program.fieldsOf;rw[ht]
   refine⟨us,vs,rfl,rfl,c2,?_⟩;rw[run_equalIn_struct w 9999 t _ _ (by rw[hf];exact ht) c1,hf];exact zJh h1 h2 9998 fs.toList b hb
  split at h
  ·simp only[Option.map_eq_some_iff]at h;obtain⟨b,hb,rfl⟩:=h;obtain⟨us,vs,rfl,rfl,hg,he⟩:=key b hb;refine⟨.bool b,?_,by simp only[V]⟩;rw[Sem.run_bind,run_eqGuard_agg w _ _ _ _ _ _ hg,Result.andThen_ok,run_eql_struct,he];rfl
  ·simp only[Option.map_eq_some_iff]at h;obtain⟨b,hb,rfl⟩:=h;obtain⟨us,vs,rfl,rfl,hg,he⟩:=key b hb;refine⟨.bool (!b),?_,by simp only[V]⟩;rw[Sem.run_bind,run_eqGuard_agg w _ _ _ _ _ _ hg,Result.andThen_ok,run_neq_struct,he];rfl
  ·cases h
def aG(hi:Nat):AV->Option Nat|.val (.int _ i)=>if 0<=i/\i<=hi then some i.toNat else none|_=>none
def xX(hi dflt:Nat):Option AV->Option Nat|none=>some dflt|some a=>aG hi a
def Own.cut(o:Own)(l n:Nat)(same full:Bool):Own:=if full then .full else if same then match o with|.st k sz=>if l=0\/n≠0 then .st k sz else .no|.z=>.no|o=>o else .no
def amx(n:Nat):Option AV->Option (Nat×Bool)|some m=>(aG n m).map λm=>(m,true)|none=>some (n,false)
def msb(n c:Nat)(hi mx:Option AV):Nat:=match mx,hi with|none,some _=>c|_,_=>n
def wW(P:Program)(t:TypeId)(x:AV)(lo hi mx:Option AV):Option AV:=match P.underlying t,x with
 |some (.slice e),.sl es n o=>match P.info? e,amx n mx with
  |some ie,some (m,full)=>match xX m n hi with
   |some h=>if mx.isSome=true/\hi.isNone=true then none else match xX h 0 lo with|some l=>if Nat.beq es.length (n*ie.size)then some (.sl ((es.drop (l*ie.size)).take ((h-l)*ie.size)) (h-l) (o.cut l (h-l) (Nat.beq h n) (full&&Nat.beq m h)))else none|none=>none
   |none=>none
  |_,_=>none
 |some (.slice e),.ms i off n c sz=>match P.info? e,amx (msb n c hi mx) mx with
  |some ie,some (m,full)=>match xX m (msb n c hi mx) hi with
   |some h=>if mx.isSome=true/\hi.isNone=true then none else match xX h 0 lo with|some l=>if sz=ie.size/\0<ie.size then some (.ms i (off+l*ie.size) (h-l) ((if full then m else c)-l) sz)else none|none=>none
   |none=>none
  |_,_=>none
 |some .string,.val (.string s)=>match mx,xX s.size s.size hi with
  |none,some h=>match xX h 0 lo with|some l=>some (.val (.string (s.extract l h)))|none=>none
  |_,_=>none
 |_,_=>none
def xM(P:Program)(t:TypeId)(x i:AV):Option AV:=match P.underlying t,x,i with
 |some (.slice e),.sl es n _,.val (.int _ i)=>match P.info? e with|some ie=>if 0<=i/\i<n then(if Nat.beq es.length (n*ie.size)then some (.ip (es.drop (i.toNat*ie.size)))else none)else none|none=>none
 |some (.array len e),.mp b off,.val (.int _ i)=>match P.info? e with|some ie=>if 0<=i/\i<len then some (.mp b (off+i.toNat*ie.size))else none|none=>none
 |some (.slice e),.ms b off n _ _,.val (.int _ i)=>match P.info? e with|some ie=>if 0<=i/\i<n then some (.mp b (off+i.toNat*ie.size))else none|none=>none
 |some (.array len e),.ip es,.val (.int _ i)=>match P.info? e with|some ie=>if 0<=i/\i<len then some (.ip (es.drop (i.toNat*ie.size)))else none|none=>none
 |_,_,_=>none
def iA(P:Program)(t:TypeId)(x i:AV):Option AV:=match P.underlying t,x,i with
 |some (.array len e),.agg cs,.val (.int _ i)=>match tsz P e with|some q=>if 0<=i/\i<len then qU q (cs.drop (i.toNat*q.2))else none|none=>none
 |some .string,.val (.string s),.val (.int _ i)=>if 0<=i then(match s[i.toNat]? with|some b=>some (.val (.int .u8 b.toNat))|none=>none)else none|_,_,_=>none
def aH(P:Program)(t:TypeId)(x:AV)(f:Nat):Option AV:=match P.underlying t with
 |some (.struct fs)=>match fs[f]? with
  |some fd=>match P.info? fd.type with
   |some i=>if i.size=0 then none else match x with|.ip es=>some (.ip (es.drop fd.offset))|.mp b off=>some (.mp b (off+fd.offset))|_=>none
   |none=>none
  |none=>none
 |_=>none
def zHd(P:Program)(t:TypeId)(x:AV)(f:Nat):Option AV:=match P.underlying t,x with
 |some (.struct fs),.agg cs=>match fs[f]? with
  |some fd=>match tsz P fd.type with|some q=>qU q (cs.drop fd.offset)|none=>none
  |none=>none
 |_,_=>none
def zEu:List AV->Option (List Int)|[]=>some []|.val (.int .u8 n)::l=>(zEu l).map (n::·)|_=>none
theorem Y5:∀(es:List AV)(ns:List Int),zEu es=some ns->es=ns.map λn=>.val (.int .u8 n):=by intro es;induction es with|nil=>intro ns h;cases h;rfl|cons a l ih=>
 intro ns h;unfold zEu at h;split at h;·rename_i e;cases e
 ·rename_i n l' e;cases e;simp only[Option.map_eq_some_iff]at h;obtain⟨r,hr,rfl⟩:=h;rw[ih r hr];rfl
 ·cases h
theorem VL.bytes{G:Gh}{w:World}:∀(ns:List Int)(vs:List Value),VL G w (ns.map λn=>.val (.int .u8 n)) vs->vs=ns.map (Value.int .u8)|[],[],_=>rfl|n::ns,v::vs,h=>by simp only[List.map_cons,VL,V]at h;rw[h.1,VL.bytes ns vs h.2];rfl|[],_::_,h=>by simp only[List.map_nil,VL]at h|_::_,[],h=>by simp only[List.map_cons,VL]at h
def zLo(ns:List Int):ByteArray:=ns.foldl (λr n=>r.push (UInt8.ofNat n.toNat)) ByteArray.empty
def Y6(P:Program)(src dst:TypeId)(x:AV):Option AV:=match P.underlying src,P.underlying dst,x with
 |some _,some (.int k),.val (.int _ n)=>some (.val (.int k (k.wrap n)))|some _,some .string,.val (.string s)=>some (.val (.string s))|some (.slice e),some .string,.sl es n _=>match P.underlying e,zEu es with|some (.int .u8),some ns=>if ns.length=n then some (.val (.string (zLo ns)))else none|_,_=>none
 |_,_,_=>none
def zJf(mx:Bool):AV->AV->Option AV|.val (.int k x),.val (.int _ y)=>some (.val (.int k (if mx then(if y>x then y else x)else(if y<x then y else x))))|_,_=>none
def zVg(P:Program)(t:TypeId)(x:AV):Option AV:=match P.underlying t,x with|some .string,.val (.string s)=>some (.val (goInt s.size))|some (.slice _),.sl _ n _=>some (.val (goInt n))|some (.slice _),.ms _ _ n _ _=>some (.val (goInt n))|some (.array n _),_=>some (.val (goInt n))|_,_=>none
theorem tX{P:Program}{w:World}{hi y:Nat}{a:AV}{G:Gh}{u:Value}{r:Nat}(hu:V G w a u)(h:aG hi a=some r)(hy:hi<=y)(code:BoundsCode):(Instr.sliceBound u y code).run P w=.ok r w/\r<=hi:=by
 unfold aG at h;split at h
 ·simp only[V]at hu;subst hu;split at h
  ·rename_i i hc;cases h;have h2:i<=(y:Int):=by omega
   exact⟨by simp[Instr.sliceBound,asIntOf,hc.1,h2],by omega⟩
  ·cases h
 ·cases h
theorem zEt{P:Program}{t:TypeId}{q:Bool×Nat}{G:Gh}{w:World}{cs:List AV}{vs:Array Value}{off:Nat}{r:AV}(ht:tsz P t=some q)(hv:VL G w cs (vs.toList.drop off))(h:qU q cs=some r):∃u,(part t vs off).run P w=.ok u w/\V G w r u:=by unfold tsz at ht;cases hu:P.underlying t with|none=>simp[hu]at ht|some d=>cases hi:P.info? t with|none=>simp[hu,hi]at ht|some i=>
 simp only[hu,hi,Option.some.injEq]at ht;subst ht;unfold qU at h;split at h;·rename_i n heq;simp only[Prod.mk.injEq]at heq;obtain⟨h1,rfl⟩:=heq;cases hle:Nat.ble i.size cs.length with|false=>simp[hle]at h|true=>
   simp only[hle,cond_true,Option.some.injEq]at h;subst h;have hle':i.size<=cs.length:=Nat.le_of_ble_eq_true hle;have hl:=VL.length _ _ hv;refine⟨.agg (vs.extract off (off+i.size)),?_,?_⟩;·simp[part,oE hu,h1,wB hi]
   ·simp only[V];refine⟨(vs.toList.drop off).take i.size,?_,VL.take _ _ _ hv⟩;congr 1;apply Array.ext';simp
 ·rename_i n heq;simp only[Prod.mk.injEq]at heq;split at h;·rename_i c cs';cases h;cases hvs:vs.toList.drop off with|nil=>rw[hvs]at hv;simp only[VL]at hv|cons v vs'=>
    rw[hvs]at hv;simp only[VL]at hv;have hget:vs[off]?=some v:=by
     have:(vs.toList.drop off)[0]?=some v:=by rw[hvs];rfl
     rw[List.getElem?_drop]at this;simpa using this
    refine⟨v,?_,hv.1⟩;simp[part,oE hu,heq.1,hget]
  ·cases h
theorem zAV{P:Program}{t:TypeId}{G:Gh}{w:World}{x i r:AV}{u v:Value}(hu:V G w x u)(hv:V G w i v)(h:xM P t x i=some r):∃q,(Instr.indexAt t u v).run P w=.ok q w/\V G w r q:=by
 unfold xM at h;split at h;·rename_i e es n o k i' hut;cases hie:P.info? e with|none=>simp[hie]at h|some ie=>
  simp only[hie]at h;split at h
  ·rename_i hc;split at h
   ·rename_i hlen;cases h;have hlen':=Nat.eq_of_beq_eq_true hlen;simp only[V]at hu hv;subst hv;obtain⟨cap,hcap,hh|⟨b,off,rfl,hcells,_⟩⟩:=hu;·omega
    ·refine⟨.pointer (some ⟨b,off+i'.toNat*ie.size,none⟩),?_,?_⟩;·simp[Instr.indexAt,run_underlying hut,asIntOf,hc.1,hc.2,wB hie,Addr.add_lit]
     ·simp only[V];exact⟨b,_,rfl,VC.drop _ _ _ _ hcells⟩
   ·cases h
  ·cases h
 ·rename_i len e b off k i' hut;cases hie:P.info? e with|none=>simp[hie]at h|some ie=>
  simp only[hie]at h;split at h
  ·rename_i hc;cases h;simp only[V]at hu hv;subst hv;obtain⟨c,hc',rfl⟩:=hu;refine⟨.pointer (some ⟨c,off+i'.toNat*ie.size,none⟩),?_,?_⟩;·simp[Instr.indexAt,run_underlying hut,asIntOf,Instr.sureAddr,hc.1,hc.2,wB hie,Addr.add_lit]
   ·simp only[V];exact⟨c,hc',rfl⟩
  ·cases h
 ·rename_i e b off n _ _ k i' hut;cases hie:P.info? e with|none=>simp[hie]at h|some ie=>
  simp only[hie]at h;split at h
  ·rename_i hc;cases h;simp only[V]at hu hv;subst hv;obtain⟨c,cap,hc',hcap,o,rfl,⟨eo,_⟩|⟨rfl,_⟩⟩|⟨⟨h0,_⟩,_⟩:=hu;rotate_left;·exact absurd hc.2 (by have:=hcap.1;omega)
   ·exact absurd hc.2 (by omega)
   have eo':=eo.symm;subst eo';refine⟨.pointer (some ⟨c,off+i'.toNat*ie.size,none⟩),?_,?_⟩;·simp[Instr.indexAt,run_underlying hut,asIntOf,hc.1,hc.2,wB hie,Addr.add_lit]
   ·simp only[V];exact⟨c,hc',rfl⟩
  ·cases h
 ·rename_i len e es k i' hut;cases hie:P.info? e with|none=>simp[hie]at h|some ie=>
  simp only[hie]at h;split at h
  ·rename_i hc;cases h;simp only[V]at hu hv;subst hv;obtain⟨b,off,rfl,hcells⟩:=hu;refine⟨.pointer (some ⟨b,off+i'.toNat*ie.size,none⟩),?_,?_⟩;·simp[Instr.indexAt,run_underlying hut,asIntOf,Instr.sureAddr,hc.1,hc.2,wB hie,Addr.add_lit]
   ·simp only[V];exact⟨b,_,rfl,VC.drop _ _ _ _ hcells⟩
  ·cases h
 ·cases h
theorem zLn{P:Program}{t:TypeId}{G:Gh}{w:World}{x i r:AV}{u v:Value}(hu:V G w x u)(hv:V G w i v)(h:iA P t x i=some r):∃q,(Instr.index t u v).run P w=.ok q w/\V G w r q:=by
 unfold iA at h;split at h;·rename_i len e cs k i' hut;cases hq:tsz P e with|none=>simp[hq]at h|some q=>
   simp only[hq]at h;split at h
   ·rename_i hc;simp only[V]at hu hv;subst hv;obtain⟨vs,rfl,hl⟩:=hu;obtain⟨r',hr,hv'⟩:=zEt (vs:=vs.toArray) (off:=i'.toNat*q.2) hq (by simpa using VL.drop _ _ _ hl) h;refine⟨r',?_,hv'⟩;have hsz:(sizeOf e).run P w=.ok q.2 w:=by unfold tsz at hq;cases h1:P.underlying e with|none=>simp[h1]at hq|some d=>cases h2:P.info? e with|none=>simp[h1,h2]at hq|some ie=>simp only[h1,h2,Option.some.injEq]at hq;subst hq;exact wB h2 w
    simp[Instr.index,run_underlying hut,asIntOf,hc.1,hc.2,hsz,hr]
   ·cases h
 ·rename_i s k i' hut;simp only[V]at hu hv;subst hu hv;split at h
  ·rename_i h0;split at h
   ·rename_i b hb;cases h;exact sJ (by simp[Instr.index,run_underlying hut,asIntOf,h0,hb])
   ·cases h
  ·cases h
 ·cases h
theorem zAW{P:Program}{t:TypeId}{G:Gh}{w:World}{x r:AV}{f:Nat}{u:Value}(hu:V G w x u)(h:aH P t x f=some r):∃q,(Instr.fieldAt t u f).run P w=.ok q w/\V G w r q:=by
 unfold aH at h;split at h;·rename_i fs hut;cases hf:fs[f]? with|none=>simp[hf]at h|some fd=>simp only[hf]at h;cases hi:P.info? fd.type with|none=>simp[hi]at h|some i=>
  simp only[hi]at h;split at h;·cases h
  ·rename_i hz;split at h
   ·cases h;simp only[V]at hu;obtain⟨b,off,rfl,hcells⟩:=hu;refine⟨.pointer (some ⟨b,off+fd.offset,none⟩),?_,?_⟩;·simp[Instr.fieldAt,run_underlying hut,hf,Instr.sureAddr,fieldPlace,wB hi,hz,Addr.add_lit]
    ·simp only[V];exact⟨b,_,rfl,VC.drop _ _ _ _ hcells⟩
   ·rename_i i0 off;cases h;simp only[V]at hu;obtain⟨b,hb,rfl⟩:=hu;refine⟨.pointer (some ⟨b,off+fd.offset,none⟩),?_,?_⟩;·simp[Instr.fieldAt,run_underlying hut,hf,Instr.sureAddr,fieldPlace,wB hi,hz,Addr.add_lit]
    ·simp only[V];exact⟨b,hb,rfl⟩
   ·cases h
 ·cases h
theorem zLm{P:Program}{t:TypeId}{G:Gh}{w:World}{x r:AV}{f:Nat}{u:Value}(hu:V G w x u)(h:zHd P t x f=some r):∃q,(Instr.field t u f).run P w=.ok q w/\V G w r q:=by
 unfold zHd at h;split at h;·rename_i fs cs hut;cases hf:fs[f]? with|none=>simp[hf]at h|some fd=>simp only[hf]at h;cases hq:tsz P fd.type with|none=>simp[hq]at h|some q=>simp only[hq]at h;simp only[V]at hu;obtain⟨vs,rfl,hl⟩:=hu;obtain⟨r',hr,hv'⟩:=zEt (vs:=vs.toArray) (off:=fd.offset) hq (by simpa using VL.drop _ _ _ hl) h;exact⟨r',by simp[Instr.field,run_underlying hut,hf,asAgg,hr],hv'⟩
 ·cases h
theorem zEs{P:Program}{s d:TypeId}{G:Gh}{w:World}{x r:AV}{u:Value}(hu:V G w x u)(h:Y6 P s d x=some r):∃q,(convert s d u).run P w=.ok q w/\V G w r q:=by
 unfold Y6 at h;split at h
 ·rename_i hs hd;cases h;simp only[V]at hu;subst hu;exact sJ (by simp[convert,run_underlying hs,run_underlying hd,Conv.intToInt])
 ·rename_i hs hd;cases h;simp only[V]at hu;subst hu;exact sJ (by simp[convert,run_underlying hs,run_underlying hd])
 ·rename_i e es n o hs hd;split at h
  ·rename_i ns he hns;split at h
   ·rename_i hlen;cases h;have hes:=Y5 _ _ hns;simp only[V]at hu;obtain⟨cap,_,⟨rfl,rfl,_,hu,_⟩|⟨b,off,rfl,hC,_⟩⟩:=hu;·cases hns;refine sJ ?_;rw[hu];generalize jY u=p;rw[run_convert_bytes_string w s d e p 0 0 hs he hd];cases p with|none=>rfl|some a=>
      refine run_bytesToString w a 0 0 [] ?_;have:=run_loadCells_list (P:=P) (w:=w) a ([]:List Value) λc v hc=>by simp at hc
      simpa using this
    ·obtain⟨vs,hv,hcell⟩:=VC.cells _ _ _ hC;rw[hes]at hv;have hvs:=VL.bytes _ _ hv;subst hvs;refine sJ ?_;rw[run_convert_bytes_string w s d e _ _ _ hs he hd];refine run_bytesToString w ⟨b,off,none⟩ n cap ns ?_;have:=run_loadCells_list (P:=P) (w:=w) ⟨b,off,none⟩ (ns.map (Value.int .u8)) λc v hc=>by obtain⟨h1,h2⟩:=List.getElem?_eq_some_iff.1 hc;rw[Addr.add_lit,hcell c h1,h2]
     rw[List.length_map,hlen]at this;exact this
   ·cases h
  ·cases h
 ·cases h
theorem zRJ{P:Program}{t ty:TypeId}{G:Gh}{w:World}{x r:AV}{u:Value}(hu:V G w x u)(h:zVg P t x=some r):∃q,(Builtin.len_ #[t] ty #[u]).run P w=.ok q w/\V G w r q:=by
 unfold zVg at h;split at h
 ·rename_i hut;cases h;simp only[V]at hu;subst hu;exact sJ (by simp[Builtin.len_,run_underlying hut])
 ·rename_i hut;cases h;simp only[V]at hu;obtain⟨cap,hcap,⟨_,rfl,_,hu,_⟩|⟨b,off,rfl,_⟩⟩:=hu;·rw[hu];exact sJ (by simp[Builtin.len_,run_underlying hut])
  ·exact sJ (by simp[Builtin.len_,run_underlying hut])
 ·rename_i hut;cases h;simp only[V]at hu;obtain⟨b,cap,_,hcap,o,rfl,_⟩|⟨⟨rfl,_⟩,_,p,rfl⟩:=hu<;>exact sJ (by simp[Builtin.len_,run_underlying hut])
 ·rename_i hut;cases h;exact sJ (by simp[Builtin.len_,run_underlying hut])
 ·cases h
def zVf(P:Program)(t:TypeId)(x:AV):Option AV:=match P.underlying t,x with|some (.slice _),.sl _ n .full=>some (.val (goInt n))|some (.slice _),.sl _ _ .nl=>some (.val (goInt 0))|_,_=>none
theorem zRK{P:Program}{t ty:TypeId}{G:Gh}{w:World}{x r:AV}{u:Value}(hu:V G w x u)(h:zVf P t x=some r):∃q,(Builtin.cap_ #[t] ty #[u]).run P w=.ok q w/\V G w r q:=by
 unfold zVf at h;split at h
 ·rename_i hut;cases h;simp only[V,mV]at hu;obtain⟨cap,hcap,⟨_,rfl,_,hu,_⟩|⟨b,off,rfl,_,rfl⟩⟩:=hu;·rw[hu];exact sJ (by simp[Builtin.cap_,run_underlying hut])
  ·exact sJ (by simp[Builtin.cap_,run_underlying hut])
 ·rename_i hut;cases h;simp only[V,mV]at hu;obtain⟨cap,hcap,⟨_,rfl,_,hu,_⟩|⟨b,off,rfl,_,hf⟩⟩:=hu;·rw[hu];exact sJ (by simp[Builtin.cap_,run_underlying hut])
  ·exact hf.elim
 ·cases h
theorem mX{P:Program}{w:World}{G:Gh}{isS:Bool}{n cap m h l:Nat}{full:Bool}{lo hi mx:Option AV}{vlo vhi vmx:Option Value}(hlo:∀a,lo=some a->∃u,vlo=some u/\V G w a u)(hhi:∀a,hi=some a->∃u,vhi=some u/\V G w a u)(hmx:∀a,mx=some a->∃u,vmx=some u/\V G w a u)(nlo:lo=none->vlo=none)(nhi:hi=none->vhi=none)(nmx:mx=none->vmx=none)(hn:n<=cap)(h1:amx n mx=some (m,full))(h2:xX m n hi=some h)(h3:xX h 0 lo=some l)(h4:¬(mx.isSome=true/\hi.isNone=true)):(Instr.sliceBounds isS n cap vlo vhi vmx).run P w=.ok (l,h,if full then m else cap) w/\l<=h/\h<=m/\m<=n/\(full=false->m=n):=by cases mx with
 |none=>
  simp only[amx,Option.some.injEq,Prod.mk.injEq]at h1;obtain⟨rfl,rfl⟩:=h1;have e1:=nmx rfl;subst e1;have hhv:∃hh:h<=n,True:=by cases hi with|none=>simp only[xX,Option.some.injEq]at h2;exact⟨by omega,trivial⟩|some a=>obtain⟨u,_,hu⟩:=hhi a rfl;exact⟨(tX (P:=P) hu h2 (Nat.le_refl _) .sliceB).2,trivial⟩
  obtain⟨hh,_⟩:=hhv;have hlv:l<=h:=by cases lo with|none=>simp only[xX,Option.some.injEq]at h3;omega|some a=>obtain⟨u,_,hu⟩:=hlo a rfl;exact(tX (P:=P) hu h3 (Nat.le_refl _) .sliceB).2
  refine⟨?_,hlv,hh,Nat.le_refl _,λ_=>rfl⟩;cases hi with
  |none=>simp only[xX,Option.some.injEq]at h2;subst h2;have e2:=nhi rfl;subst e2;cases lo with|none=>simp only[xX,Option.some.injEq]at h3;subst h3;have e3:=nlo rfl;subst e3;simp[Instr.sliceBounds]|some a=>obtain⟨u,rfl,hu⟩:=hlo a rfl;simp[Instr.sliceBounds,(tX (P:=P) hu h3 (Nat.le_refl _) .sliceB).1]
  |some b=>obtain⟨ub,rfl,hub⟩:=hhi b rfl;have r1:=λc=>(tX (P:=P) hub h2 hn c).1;cases lo with|none=>simp only[xX,Option.some.injEq]at h3;subst h3;have e3:=nlo rfl;subst e3;simp[Instr.sliceBounds,r1]|some a=>obtain⟨u,rfl,hu⟩:=hlo a rfl;simp[Instr.sliceBounds,r1,(tX (P:=P) hu h3 (Nat.le_refl _) .sliceB).1]
 |some c=>obtain⟨uc,rfl,huc⟩:=hmx c rfl;simp only[amx,Option.map_eq_some_iff,Prod.mk.injEq]at h1;obtain⟨m',h1,rfl,rfl⟩:=h1;obtain⟨_,hmn⟩:=tX (P:=P) huc h1 (Nat.le_refl _) .slice3B;have r0:=λc=>(tX (P:=P) huc h1 hn c).1;cases hi with|none=>exact absurd ⟨rfl,rfl⟩ h4|some b=>obtain⟨ub,rfl,hub⟩:=hhi b rfl;obtain⟨_,hhm⟩:=tX (P:=P) hub h2 (Nat.le_refl _) .slice3B;have r1:=λc=>(tX (P:=P) hub h2 (Nat.le_refl _) c).1;cases lo with|none=>simp only[xX,Option.some.injEq]at h3;subst h3;have e3:=nlo rfl;subst e3;exact⟨by simp[Instr.sliceBounds,r0,r1],Nat.zero_le _,hhm,hmn,λe=>by cases e⟩|some a=>obtain⟨u,rfl,hu⟩:=hlo a rfl;obtain⟨_,hl⟩:=tX (P:=P) hu h3 (Nat.le_refl _) .sliceB;exact⟨by simp[Instr.sliceBounds,r0,r1,(tX (P:=P) hu h3 (Nat.le_refl _) .slice3C).1],hl,hhm,hmn,λe=>by cases e⟩
theorem zLl{G:Gh}{o:Own}{p:Option Addr}{l n:Nat}{same full:Bool}(h:o.nil G p):(o.cut l n same full).nil G p:=by unfold Own.cut;cases full with|true=>trivial|false=>cases same with|false=>trivial|true=>cases o with|no=>trivial|full=>trivial|nl=>trivial|nn=>exact h|fr=>trivial|z=>trivial|st k sz=>
 simp only[Bool.false_eq_true,if_false,if_true];split;·exact h
 ·trivial
theorem zRL{G:Gh}{b off n cap l h m s:Nat}{full:Bool}{o:Own}(ho:mV G b off (n*s) n cap o)(q1:l<=h)(q2:h<=m)(q3:m<=n)(q4:full=false->m=n)(hcap:n<=cap):mV G b (if(if full then m else cap)=l then off else off+l*s) ((h-l)*s) (h-l) ((if full then m else cap)-l) (o.cut l (h-l) (Nat.beq h n) (full&&Nat.beq m h)):=by cases hf:(full&&Nat.beq m h)with|true=>simp only[Bool.and_eq_true]at hf;have:=Nat.eq_of_beq_eq_true hf.2;simp only[Own.cut,if_true,mV,hf.1];omega|false=>cases hs:Nat.beq h n with|false=>simp[Own.cut,mV]|true=>
 have hs':=Nat.eq_of_beq_eq_true hs;have hfull:full=false:=by cases hfu:full with|false=>rfl|true=>
   exfalso;have:m=h:=by omega
   simp[hfu,this]at hf
 subst hfull;simp only[Own.cut,Bool.false_eq_true,if_false,if_true];cases o with|no=>trivial|full=>simp only[mV]at ho⊢;omega|nl=>exact ho|nn=>trivial|fr=>exact ho|z=>trivial|st k sz=>
  simp only;by_cases hc:l=0\/h-l≠0
  ·rw[if_pos hc];simp only[mV]at ho⊢;obtain⟨hq,ho|⟨ho1,hnF,ho2⟩⟩:=ho;·refine⟨hq,.inl ⟨by omega,by omega⟩⟩
   rcases Nat.eq_zero_or_pos l with hl0|hl0
   ·subst hl0;rw[hs'];simp only[Nat.sub_zero,Nat.zero_mul,Nat.add_zero,ite_self];exact⟨hq,.inr ⟨ho1,hnF,ho2⟩⟩
   ·have hne:h-l≠0:=by omega
    have hnpos:0<n:=by omega
    have hsz:sz=s:=Nat.eq_of_mul_eq_mul_left hnpos ho1.symm;subst hsz;have hcl:¬cap=l:=by omega
    rw[if_neg hcl];refine⟨hq,.inr ⟨rfl,hnF,?_⟩⟩;rw[ho2,hs'];have e1:off+l*sz+(n-l)*sz=off+n*sz:=by rw[Nat.add_assoc,<-Nat.add_mul];congr 2;omega
    have e2:off+l*sz+(cap-l)*sz=off+cap*sz:=by rw[Nat.add_assoc,<-Nat.add_mul];congr 2;omega
    rw[e1,e2]
  ·rw[if_neg hc];trivial
theorem zLk{P:Program}{t:TypeId}{G:Gh}{w:World}{x r:AV}{lo hi mx:Option AV}{vlo vhi vmx:Option Value}{u:Value}(hu:V G w x u)(hlo:∀a,lo=some a->∃u,vlo=some u/\V G w a u)(hhi:∀a,hi=some a->∃u,vhi=some u/\V G w a u)(hmx:∀a,mx=some a->∃u,vmx=some u/\V G w a u)(nlo:lo=none->vlo=none)(nhi:hi=none->vhi=none)(nmx:mx=none->vmx=none)(h:wW P t x lo hi mx=some r):∃q,(Instr.sliceAt t u vlo vhi vmx).run P w=.ok q w/\V G w r q:=by
 unfold wW at h;split at h;·rename_i e es n o hut;cases hie:P.info? e with|none=>simp[hie]at h|some ie=>cases hm:amx n mx with|none=>simp[hie,hm]at h|some mf=>obtain⟨m,full⟩:=mf;simp only[hie,hm]at h;cases hh:xX m n hi with|none=>simp[hh]at h|some hb=>
     simp only[hh]at h;split at h;·cases h
     ·rename_i h4;cases hl:xX hb 0 lo with|none=>simp[hl]at h|some l=>
       simp only[hl]at h;split at h
       ·rename_i hlen;cases h;have hlen':=Nat.eq_of_beq_eq_true hlen;simp only[V]at hu;obtain⟨cap,hcap,hcase⟩:=hu;obtain⟨hrun,q1,q2,q3,q4⟩:=mX (P:=P) (isS:=true) hlo hhi hmx nlo nhi nmx hcap hm hh hl h4;have hsl:∀base,(Instr.sliceAt t (.slice base n cap) vlo vhi vmx).run P w=.ok (.slice (if(if full then m else cap)=l then base else base.map (·.add (l*ie.size))) (hb-l) ((if full then m else cap)-l)) w:=by intro base;simp[Instr.sliceAt,run_underlying hut,Instr.slice,hrun,wB hie]
        have hlen2:((es.drop (l*ie.size)).take ((hb-l)*ie.size)).length=(hb-l)*ie.size:=by simp only[List.length_take,List.length_drop,hlen',<-Nat.sub_mul];exact Nat.min_eq_left (Nat.mul_le_mul_right _ (by omega))
        have hMl:hb<=(if full then m else cap):=by split<;>omega
        rcases hcase with⟨rfl,rfl,rfl,hu,hpl⟩|⟨b,off,rfl,hcells,ho⟩
        ·rw[hu];refine⟨_,hsl (jY u),?_⟩;have e1:hb=0:=by omega
         have e2:l=0:=by omega
         have e3:m=0:=by omega
         subst e1 e2 e3;rw[if_pos (by split<;>rfl)];simp only[V];refine⟨0,Nat.le_refl _,.inl ⟨by simp,by first|rfl|trivial,by first|rfl|trivial,by simp[jY],zLl hpl⟩⟩
        ·refine⟨_,hsl _,?_⟩;simp only[V];refine⟨(if full then m else cap)-l,by omega,.inr ?_⟩;have hcut:=zRL (G:=G) (o:=o) (by rw[hlen']at ho;exact ho) q1 q2 q3 q4 hcap;rw[hlen2];by_cases hMl':(if full then m else cap)=l
         ·rw[if_pos hMl']at hcut⊢;refine⟨b,off,rfl,?_,hcut⟩;have:hb-l=0:=by omega
          simp[this,VC]
         ·rw[if_neg hMl']at hcut⊢;refine⟨b,off+l*ie.size,by simp[Addr.add_lit],VC.take _ _ _ _ (VC.drop _ _ _ _ hcells),hcut⟩
       ·cases h
 ·rename_i e i off n c sz hut;cases hie:P.info? e with|none=>simp[hie]at h|some ie=>generalize hnn:msb n c hi mx=nn at h;cases hm:amx nn mx with|none=>simp[hie,hm]at h|some mf=>obtain⟨m,full⟩:=mf;simp only[hie,hm]at h;cases hh:xX m nn hi with|none=>simp[hh]at h|some hb=>
     simp only[hh]at h;split at h;·cases h
     ·rename_i h4;cases hl:xX hb 0 lo with|none=>simp[hl]at h|some l=>
       simp only[hl]at h;split at h
       ·rename_i hszz;obtain⟨hsz,hsz1⟩:=hszz;simp only[V]at hu;rcases hu with⟨b,cap,hbb,hcap,o,rfl,hroom⟩|⟨⟨rfl,rfl⟩,hN,p,rfl⟩;case inr=>
         have hnn0:nn=0:=by subst hnn;unfold msb;split<;>rfl
         subst hnn0;obtain⟨hrun0,q1,q2,q3,q4⟩:=mX (P:=P) (isS:=true) hlo hhi hmx nlo nhi nmx (Nat.le_refl 0) hm hh hl h4;have e1:hb=0:=by omega
         have e2:l=0:=by omega
         have e3:m=0:=by omega
         subst e1 e2 e3;cases h;refine⟨.slice p 0 0,?_,?_⟩
         ·have hrun0':(Instr.sliceBounds true 0 0 vlo vhi vmx).run P w=.ok (0,0,0) w:=by rw[hrun0];cases full<;>rfl
          cases p<;>simp[Instr.sliceAt,run_underlying hut,Instr.slice,hrun0',wB hie]
         ·simp only[V];exact .inr ⟨⟨(by first|rfl|trivial),(by cases full<;>first|rfl|trivial)⟩,hN,p,(by first|rfl|trivial)⟩
        have hnc:nn<=c:=by
         subst hnn;unfold msb;split;·exact Nat.le_refl _
         ·exact hcap.1
        obtain⟨hrun0,q1,q2,q3,q4⟩:=mX (P:=P) (isS:=true) hlo hhi hmx nlo nhi nmx (Nat.le_trans hnc hcap.2) hm hh hl h4;have hrun:(Instr.sliceBounds true n cap vlo vhi vmx).run P w=.ok (l,hb,if full then m else cap) w:=by
         have:Instr.sliceBounds true nn cap vlo vhi vmx=Instr.sliceBounds true n cap vlo vhi vmx:=by cases hi with|none=>subst hnn;cases mx<;>rfl|some a=>obtain⟨v,rfl,_⟩:=hhi a rfl;cases vmx<;>rfl
         rw[<-this];exact hrun0
        have hfc:(if full=true then m else c)<=(if full=true then m else cap):=by split<;>omega
        have hhc:hb<=(if full=true then m else c):=by split<;>omega
        have hsl:(Instr.sliceAt t (.slice (some ⟨b,o,none⟩) n cap) vlo vhi vmx).run P w=.ok (.slice (if(if full then m else cap)=l then some ⟨b,o,none⟩else some ⟨b,o+l*ie.size,none⟩) (hb-l) ((if full then m else cap)-l)) w:=by simp[Instr.sliceAt,run_underlying hut,Instr.slice,hrun,wB hie,Addr.add_lit]
        refine⟨_,hsl,?_⟩;have hMl:hb<=(if full then m else cap):=by split<;>omega
        have hMc:(if full then m else cap)<=cap:=by split<;>omega
        cases h;simp only[V];have hM:∀{l':Nat},(if full=true then m else cap)-l'<=cap-l':=by intro l';split<;>omega
        by_cases hcl:(if full=true then m else cap)=l;·-- nothing is left,and the pointer stays
         have h0:hb-l=0:=by omega
         rw[if_pos hcl,h0];refine .inl ⟨b,(if full then m else cap)-l,hbb,⟨by omega,by omega⟩,o,rfl,?_⟩;rcases Nat.eq_zero_or_pos l with hl0|hl0
         ·rcases hroom with⟨rfl,vs,T,h1,h2⟩|⟨_,h3⟩
          ·left;subst hl0;refine⟨by simp,vs,T,h1,Nat.le_trans ?_ h2⟩;subst hsz;simp only[Nat.zero_mul,Nat.add_zero,Nat.sub_zero];exact Nat.add_le_add_left (Nat.mul_le_mul_right _ hMc) _
          ·right;exact⟨by omega,by omega⟩
         ·right;refine⟨by omega,?_⟩;have:=Nat.mul_pos hl0 hsz1;omega
        ·rw[if_neg hcl];refine .inl ⟨b,(if full then m else cap)-l,hbb,⟨by omega,by omega⟩,_,rfl,?_⟩;rcases hroom with⟨rfl,vs,T,h1,h2⟩|⟨h3,h4⟩
         ·left;refine⟨rfl,vs,T,h1,Nat.le_trans ?_ h2⟩;subst hsz;rw[Nat.add_assoc,<-Nat.add_mul];exact Nat.add_le_add_left (Nat.mul_le_mul_right _ (by omega)) _
         ·right;have hcc:(if full=true then m else c)<=c:=by split<;>omega
          exact⟨by omega,by omega⟩
       ·cases h
 ·rename_i s hut;split at h
  ·rename_i hb hh;split at h
   ·rename_i l hl;cases h;simp only[V]at hu;subst hu;have e0:=nmx rfl;subst e0;obtain⟨hrun,_⟩:=mX (P:=P) (isS:=false) (m:=s.size) (full:=false) (cap:=s.size) hlo hhi (mx:=none) (vmx:=none) (λa e=>by cases e) nlo nhi (λ_=>rfl) (Nat.le_refl _) rfl hh hl (by simp);exact sJ (by simp[Instr.sliceAt,run_underlying hut,Instr.slice,hrun])
   ·cases h
  ·cases h
 ·cases h
def J8(ev:Operand->AV)(parts:Array (Nat×Operand)):List (Nat×AV):=parts.toList.map λp=>(p.1,ev p.2)
def pop(P:Program)(o:Op)(ev:Operand->AV):Option AV:=match o with
 |.move x|.assign x=>some (ev x)|.pick c a b=>match ev c with|.val (.bool t)=>some (bif t then ev a else ev b)|_=>none
 |.build t parts=>zHg P t (J8 ev parts)|.nilCheck x=>match ev x with|.mp b off=>some (.mp b off)|.ip es=>some (.ip es)|.clo f fs cs=>some (.clo f fs cs)|_=>none
 |.binOp op t x y _=>zHe P op t (ev x) (ev y)|.unOp op _ x=>match op,ev x with|.not,.val (.bool b)=>some (.val (.bool (!b)))|.neg,.val (.int k n)=>some (.val (.int k (k.wrap (0-n))))|_,_=>none
 |.convert s d x=>Y6 P s d (ev x)|.makeFunc (.func f) first captured=>some (.clo f (first.toList.map ev) (captured.toList.map ev))|.slice t x lo hi mx=>wW P t (ev x) (lo.map ev) (hi.map ev) (mx.map ev)|.fieldAddr t x f=>aH P t (ev x) f|.field t x f=>zHd P t (ev x) f|.indexAddr t x i=>xM P t (ev x) (ev i)|.index t x i=>iA P t (ev x) (ev i)|.extract t i=>match ev t with|.tup vs=>vs[i]?|_=>none
 |.load t a=>match tsz P t,ev a with|some q,.ip es=>qU q es|_,_=>none
 |.call {callee:=.builtin .len,args,argTypes}=>match args.toList,argTypes.toList with|[x],[t]=>zVg P t (ev x)|_,_=>none
 |.call {callee:=.builtin .max,args,argTypes:=_}=>match args.toList with|[x,y]=>zJf true (ev x) (ev y)|_=>none
 |.call {callee:=.builtin .min,args,argTypes:=_}=>match args.toList with|[x,y]=>zJf false (ev x) (ev y)|_=>none
 |.call {callee:=.builtin .cap,args,argTypes}=>match args.toList,argTypes.toList with|[x],[t]=>zVf P t (ev x)|_,_=>none
 |_=>none
theorem VP.map{G:Gh}{w:World}{ev:Operand->AV}{a:Act}:∀(l:List (Nat×Operand)),(∀p∈l,V G w (ev p.2) (a.eval p.2))->VP G w (l.map λp=>(p.1,ev p.2)) (l.map λp=>(p.1,a.eval p.2))|[],_=>.nil|p::l,h=>.cons (h p (by simp)) (VP.map l λq hq=>h q (by simp[hq]))
theorem VL.mapv{G:Gh}{w:World}{ev:Operand->AV}{a:Act}:∀(l:List Operand),(∀p∈l,V G w (ev p) (a.eval p))->VL G w (l.map ev) (l.map a.eval)|[],_=>by simp[VL]|p::l,h=>by simp only[List.map_cons,VL];exact⟨h p (by simp),VL.mapv l λq hq=>h q (by simp[hq])⟩
theorem zHc{P:Program}{t:TypeId}{q:Bool×Nat}{G:Gh}{w:World}{es:List AV}{b off:Nat}{r:AV}(ht:tsz P t=some q)(hc:VC G w es b off)(h:qU q es=some r):∃u,(Instr.loadAt t (.pointer (some ⟨b,off,none⟩))).run P w=.ok u w/\V G w r u:=by unfold tsz at ht;cases hu:P.underlying t with|none=>simp[hu]at ht|some d=>cases hi:P.info? t with|none=>simp[hu,hi]at ht|some i=>
 simp only[hu,hi,Option.some.injEq]at ht;subst ht;unfold qU at h;split at h;·rename_i n heq;simp only[Prod.mk.injEq]at heq;obtain⟨h1,rfl⟩:=heq;cases hle:Nat.ble i.size es.length with|false=>simp[hle]at h|true=>
   simp only[hle,cond_true,Option.some.injEq]at h;subst h;have hle':i.size<=es.length:=Nat.le_of_ble_eq_true hle;obtain⟨vs,hv,hcell⟩:=VC.cells _ _ _ (VC.take es b off i.size hc);have hl:vs.length=i.size:=by rw[VL.length _ _ hv];simp;omega
   have hrun:=run_loadCells_list (P:=P) w ⟨b,off,none⟩ vs (λj v hj=>by have hjl:=(List.getElem?_eq_some_iff.1 hj);obtain⟨hj1,hj2⟩:=hjl;rw[Addr.add_lit,hcell j hj1,hj2]);rw[hl]at hrun;refine⟨.agg vs.toArray,?_,by simp only[V];exact⟨vs,rfl,hv⟩⟩;simp[Instr.loadAt,Instr.sureAddr,loadVar,oE hu,h1,wB hi,hrun]
 ·rename_i n heq;simp only[Prod.mk.injEq]at heq;split at h
  ·rename_i c cs';cases h;simp only[VC]at hc;obtain⟨_,⟨v,hv,hcv⟩,_⟩:=hc;refine⟨v,?_,hcv⟩;simp[Instr.loadAt,Instr.sureAddr,loadVar,oE hu,heq.1,hv]
  ·cases h
theorem zVe{P:Program}{o:Oper}{ev:Operand->AV}{v:AV}(h:pop P o.op ev=some v):xW P o {ev:=ev,v:=v}:=by
 refine xW.pure λG w a hx=>?_;obtain⟨dst,op,type,pos,after,guard⟩:=o;have val:∀{s:Sem Value},(∃q,s.run P w=.ok q w/\V G w v q)->(execOp a.eval ⟨dst,op,type,pos,after,guard⟩=(do pure (.value (<-s))))->∃u,(execOp a.eval ⟨dst,op,type,pos,after,guard⟩).run P w=.ok (.value u) w/\V G w v u:=by rintro s⟨q,hq,hv⟩he;refine⟨q,?_,hv⟩;rw[he];simp[hq]
 simp only[pop]at h;split at h;·cases h;exact⟨_,rfl,hx _ (by simp[Op.operands])⟩
 ·cases h;exact⟨_,rfl,hx _ (by simp[Op.operands])⟩
 ·rename_i c x y;split at h
  ·rename_i t ht;cases h;have hc:=hx c (by simp[Op.operands]);rw[ht]at hc;simp only[V]at hc;refine⟨if t then a.eval x else a.eval y,?_,?_⟩;·simp only[execOp,hc];cases t<;>rfl
   ·cases t;·exact hx y (by simp[Op.operands])
    ·exact hx x (by simp[Op.operands])
  ·cases h
 ·rename_i t parts;refine val (zLr (parts':=parts.map λ(i,x)=>(i,a.eval x)) ?_ h) rfl;have:=VP.map (G:=G) (w:=w) (ev:=ev) (a:=a) parts.toList (λp hp=>hx p.2 (by simp[Op.operands];exact⟨p.1,by simpa using hp⟩));simpa[J8]using this
 ·rename_i x;have hxx:=hx x (by simp[Op.operands]);split at h
  ·rename_i b off he;cases h;rw[he]at hxx;refine⟨_,?_,hxx⟩;simp only[V]at hxx;obtain⟨q,_,hq⟩:=hxx;simp[execOp,hq]
  ·rename_i es he;cases h;rw[he]at hxx;refine⟨_,?_,hxx⟩;simp only[V]at hxx;obtain⟨q,_,hq,_⟩:=hxx;simp[execOp,hq]
  ·rename_i f fs cs he;cases h;rw[he]at hxx;refine⟨_,?_,hxx⟩;simp only[V]at hxx;obtain⟨q,r,hq,_⟩:=hxx;simp[execOp,hq]
  ·cases h
 ·rename_i op t x y ty;exact val (zLp (hx x (by simp[Op.operands])) (hx y (by simp[Op.operands])) x y h) rfl
 ·rename_i op ty x;have hxx:=hx x (by simp[Op.operands]);split at h
  ·rename_i b he;cases h;rw[he]at hxx;simp only[V]at hxx;exact val ⟨.bool (!b),by simp[hxx,Op.unary],by simp only[V]⟩ rfl
  ·rename_i k n he;cases h;rw[he]at hxx;simp only[V]at hxx;exact val ⟨.int k (k.wrap (0-n)),by simp[hxx,Op.unary,Op.intArith],by simp only[V]⟩ rfl
  ·cases h
 ·rename_i s d x;exact val (zEs (hx x (by simp[Op.operands])) h) rfl
 ·rename_i f first captured;cases h;refine val ⟨.func (.func f) (first.map a.eval) (captured.map a.eval),rfl,?_⟩ rfl;simp only[V];refine⟨first.toList.map a.eval,captured.toList.map a.eval,by rw[<-Array.toList_map,<-Array.toList_map],VL.mapv _ λp hp=>hx p (by simp[Op.operands];exact .inl (by simpa using hp)),VL.mapv _ λp hp=>hx p (by simp[Op.operands];exact .inr (by simpa using hp))⟩
 ·rename_i t x lo hi mx;have mo:∀(z:Option Operand),(∀y,z=some y->y∈(Op.slice t x lo hi mx).operands)->(∀b,z.map ev=some b->∃u,z.map a.eval=some u/\V G w b u):=by intro z hz b hb;cases z with|none=>cases hb|some y=>simp only[Option.map_some,Option.some.injEq]at hb;subst hb;exact⟨_,rfl,hx y (hz y rfl)⟩
  have no:∀(z:Option Operand),z.map ev=none->z.map a.eval=none:=by intro z hz;cases z with|none=>rfl|some y=>cases hz
  exact val (zLk (hx x (by simp[Op.operands])) (mo lo (by simp[Op.operands];intro y hy;simp[hy])) (mo hi (by simp[Op.operands];intro y hy;simp[hy])) (mo mx (by simp[Op.operands];intro y hy;simp[hy])) (no lo) (no hi) (no mx) h) rfl
 ·rename_i t x f;exact val (zAW (hx x (by simp[Op.operands])) h) rfl
 ·rename_i t x f;exact val (zLm (hx x (by simp[Op.operands])) h) rfl
 ·rename_i t x i;exact val (zAV (hx x (by simp[Op.operands])) (hx i (by simp[Op.operands])) h) rfl
 ·rename_i t x i;exact val (zLn (hx x (by simp[Op.operands])) (hx i (by simp[Op.operands])) h) rfl
 ·rename_i t i;split at h
  ·rename_i vs he;have hxx:=hx t (by simp[Op.operands]);rw[he]at hxx;simp only[V]at hxx;obtain⟨us,hus,hl⟩:=hxx;obtain⟨u,hu,hv⟩:=VL.get _ _ hl i v h;refine val ⟨u,?_,hv⟩ rfl;simp[hus,Instr.extract,hu]
  ·cases h
 ·rename_i t x;split at h
  ·rename_i q es hq he;have hxx:=hx x (by simp[Op.operands]);rw[he]at hxx;simp only[V]at hxx;obtain⟨b,off,hb,hc⟩:=hxx;refine val ?_ rfl;rw[hb];exact zHc hq hc h
  ·cases h
 ·rename_i args argTypes;split at h
  ·rename_i x t h1 h2;have e1:args=#[x]:=by cases args;simp_all
   have e2:argTypes=#[t]:=by cases argTypes;simp_all
   subst e1 e2;refine val (s:=Builtin.len_ #[t] type #[a.eval x]) (zRJ (hx x (by simp[Op.operands,Call.operands])) h) ?_;simp[execOp,resolve,invoke,builtin]
  ·cases h
 ·rename_i args argTypes;split at h
  ·rename_i x y h1;have e1:args=#[x,y]:=by cases args;simp_all
   subst e1;unfold zJf at h;split at h
   ·rename_i k n k' n' q1 q2;cases h;have w1:=hx x (by simp[Op.operands,Call.operands]);have w2:=hx y (by simp[Op.operands,Call.operands]);rw[q1]at w1;rw[q2]at w2;simp only[V]at w1 w2;refine⟨_,?_,by simp only[V];rfl⟩;simp[execOp,resolve,invoke,builtin,w1,w2,Builtin.max_,Builtin.max2]
   ·cases h
  ·cases h
 ·rename_i args argTypes;split at h
  ·rename_i x y h1;have e1:args=#[x,y]:=by cases args;simp_all
   subst e1;unfold zJf at h;split at h
   ·rename_i k n k' n' q1 q2;cases h;have w1:=hx x (by simp[Op.operands,Call.operands]);have w2:=hx y (by simp[Op.operands,Call.operands]);rw[q1]at w1;rw[q2]at w2;simp only[V]at w1 w2;refine⟨_,?_,by simp only[V];rfl⟩;simp[execOp,resolve,invoke,builtin,w1,w2,Builtin.min_,Builtin.min2]
   ·cases h
  ·cases h
 ·rename_i args argTypes;split at h
  ·rename_i x t h1 h2;have e1:args=#[x]:=by cases args;simp_all
   have e2:argTypes=#[t]:=by cases argTypes;simp_all
   subst e1 e2;refine val (s:=Builtin.cap_ #[t] type #[a.eval x]) (zRK (hx x (by simp[Op.operands,Call.operands])) h) ?_;simp[execOp,resolve,invoke,builtin]
  ·cases h
 ·cases h
structure yW where
 H:List (Nat×yM)nx:Nat
 own:List Nat
 ns:Nat
 dirty:List Nat:=[]
def look:List (Nat×yM)->Nat->Option yM|[],_=>none|p::l,i=>bif Nat.beq i p.1 then some p.2 else look l i
theorem Y7{la:LA}{σ:wT}(h1:la.wr=[])(h2:la.al=[])(h3:la.use=[])(h4:la.new=0):la.app σ=σ:=by unfold LA.app;rw[h1,h2,h3,h4];show(wT.mk σ.H σ.own σ.ns).stamps [] 0=σ;rw[wT.stamps_zero]
theorem aI{ev:Operand->AV}{rd:List (Nat×yM)}{i:Nat}{X:yM}{v:AV}{σ:wT}:({ev:=ev,rd:=rd,al:=[(i,X)],v:=v}:LA).app σ=⟨up σ.H i X,σ.own,σ.ns⟩:=by unfold LA.app;show(wT.mk (up σ.H i X) σ.own σ.ns).stamps [] 0=_;rw[wT.stamps_zero]
theorem aJ{ev:Operand->AV}{i:Nat}{X Y:yM}{v:AV}{σ:wT}:({ev:=ev,wr:=[(i,X,Y)],v:=v}:LA).app σ=⟨up σ.H i Y,σ.own,σ.ns⟩:=by unfold LA.app;show(wT.mk (up σ.H i Y) σ.own σ.ns).stamps [] 0=_;rw[wT.stamps_zero]
theorem zHb(σ:wT):σ.stamps [] 1=σ.stamp none true:=by
 unfold wT.stamps wT.stamp;congr 1;funext j;by_cases h:j=σ.ns;·subst h;simp
 ·have h':¬(σ.ns<=j/\j<σ.ns+1):=by omega
  simp only[if_neg h'];simp[h]
theorem zHa(σ:wT)(k:Nat):σ.stamps [k] 1=σ.stamp (some k) true:=by
 unfold wT.stamps wT.stamp;congr 1;funext j;by_cases h:j=σ.ns;·subst h;simp
 ·have h':¬(σ.ns<=j/\j<σ.ns+1):=by omega
  simp only[if_neg h'];by_cases hj:j=k;·subst hj;simp[h]
  ·have hk:¬k=j:=λe=>hj e.symm;simp[h,hj,hk]
theorem dA{ev:Operand->AV}{ns:Nat}{v:AV}{σ:wT}:({ev:=ev,ns:=ns,new:=1,v:=v}:LA).app σ=σ.stamp none true:=zHb σ
theorem dD{ev:Operand->AV}{ns k:Nat}{v:AV}{σ:wT}:({ev:=ev,use:=[k],ns:=ns,new:=1,v:=v}:LA).app σ=σ.stamp (some k) true:=zHa σ k
theorem J9{P:Program}{t:TypeId}{q:Bool×Nat}{G:Gh}{w:World}{cs:List AV}{vs:Array Value}{b off:Nat}{T:TypeId}{fr:Nat×Nat}{r:AV}(ht:tsz P t=some q)(hb:w.heap[b]?=some (.cells vs T fr))(hvp:gT G w cs vs.toList)(h:qU q (cs.drop off)=some r):∃u,(Instr.loadAt t (.pointer (some ⟨b,off,none⟩))).run P w=.ok u w/\V G w r u:=by have hvd:=hvp.drop off;unfold tsz at ht;cases hu:P.underlying t with|none=>simp[hu]at ht|some d=>cases hi:P.info? t with|none=>simp[hu,hi]at ht|some i=>
 simp only[hu,hi,Option.some.injEq]at ht;subst ht;unfold qU at h;have hcell:∀j v,(vs.toList.drop off)[j]?=some v->w.cell? ⟨b,off+j,none⟩=some v:=by intro j v hj;rw[List.getElem?_drop]at hj;simp[World.cell?,hb,<-hj]
 split at h;·rename_i n heq;simp only[Prod.mk.injEq]at heq;obtain⟨h1,rfl⟩:=heq;cases hle:Nat.ble i.size (cs.drop off).length with|false=>simp only[hle,cond_false,reduceCtorEq]at h|true=>
   simp only[hle,cond_true,Option.some.injEq]at h;subst h;have hle':i.size<=(cs.drop off).length:=Nat.le_of_ble_eq_true hle;have hl:=hvd.le;have hrun:=run_loadCells_list (P:=P) w ⟨b,off,none⟩ ((vs.toList.drop off).take i.size) (λj v hj=>by
    rw[Addr.add_lit];apply hcell;rw[List.getElem?_take]at hj;split at hj;·exact hj
    ·cases hj);have hl2:((vs.toList.drop off).take i.size).length=i.size:=by rw[List.length_take];omega
   rw[hl2]at hrun;refine⟨.agg ((vs.toList.drop off).take i.size).toArray,?_,by simp only[V];exact⟨_,rfl,hvd.take _ hle'⟩⟩;simp only[Instr.loadAt,Instr.sureAddr,loadVar,Sem.run_bind,Sem.run_pure,Result.andThen_ok,oE hu,h1,wB hi,hrun,if_true]
 ·rename_i n heq;simp only[Prod.mk.injEq]at heq;split at h
  ·rename_i c cs' hcs;cases h;rw[hcs]at hvd;obtain⟨us,rest,hus,hvl⟩:=hvd;cases us with|nil=>simp only[VL]at hvl|cons v vs'=>simp only[VL]at hvl;have:=hcell 0 v (by rw[hus];rfl);refine⟨v,?_,hvl.1⟩;simp only[Nat.add_zero]at this;simp[Instr.loadAt,Instr.sureAddr,loadVar,oE hu,heq.1,this]
  ·cases h
def eop(P:Program)(o:Op)(ev:Operand->AV)(s:yW):Option LA:=match o with
 |.alloc t=>match P.info? t with
  |some i=>match i.zero with|some z=>some {ev:=ev,al:=[(s.nx,.cells (z.cells.toList.map (ofV 8)))],v:=.mp s.nx 0}|none=>none
  |none=>none
 |.box _ x=>bif(ev x).sound then some {ev:=ev,al:=[(s.nx,.cells (rG (ev x)))],v:=.mp s.nx 0}else none|.load t a=>match tsz P t,ev a with
  |some q,.mp i off=>match look s.H i with
   |some (.cells cs)=>match qU q (cs.drop off)with|some r=>some {ev:=ev,rd:=[(i,.cells cs)],v:=r}|none=>none
   |_=>none
  |_,_=>none
 |.store t a x=>match P.info? t,ev a with
  |some ti,.mp i off=>match look s.H i with
   |some (.cells cs)=>bif(ev x).sound&&Nat.beq (rG (ev x)).length ti.size&&Nat.ble (off+ti.size) cs.length then some {ev:=ev,wr:=[(i,.cells cs,.cells (splice cs off (rG (ev x))))],v:=.val undef}else none|_=>none
  |_,_=>none
 |.buildSlice t len parts=>match P.underlying t with
  |some (.slice e)=>match P.info? e with
   |some ie=>match ie.zero with
    |some z=>bif Nat.beq z.cells.size ie.size&&Nat.ble (len*ie.size) 16777216&&Nat.ble 1 ie.size then match Y4 (λi=>some (i*ie.size,ie.size)) ((List.range (len*ie.size)).map λj=>ofV 8 (z.cells.getD (j%z.cells.size) undef)) (J8 ev parts)with|some cs=>some {ev:=ev,v:=.sl cs len .full}|none=>none else none|none=>none
   |none=>none
  |_=>none
 |.makeSlice t l c=>match P.underlying t,ev l,ev c with
  |some (.slice e),.val (.int .i64 l),.val (.int .i64 c)=>match P.info? e with
   |some ie=>match ie.zero with|some z=>if l=c/\0<=l/\l*ie.bytes<=140737488355328/\l<=9223372036854775807/\z.cells.size=ie.size/\1<=ie.size then some {ev:=ev,v:=.sl ((List.range (l.toNat*ie.size)).map λj=>ofV 8 (z.cells.getD (j%z.cells.size) undef)) l.toNat .full}else none|none=>none
   |none=>none
  |_,_,_=>none
 |.makeMap _ none=>some {ev:=ev,al:=[(s.nx,.obj (.map #[] 0))],v:=.obj s.nx}|_=>none
theorem zNO{P:Program}{o:Oper}{ev:Operand->AV}{s:yW}{la:LA}(h:eop P o.op ev s=some la):xW P o la/\la.ev=ev:=by
 obtain⟨dst,op,type,pos,after,guard⟩:=o;simp only[eop]at h;split at h
 ·rename_i t;split at h
  ·rename_i i hi;split at h
   ·rename_i z hz;cases h;refine⟨xW.value λG σ w a hR _ hc=>?_,rfl⟩;have hn:σ.H s.nx=none:=hc.al _ _ (List.mem_singleton.2 rfl);refine⟨.pointer (some ⟨w.heap.size,0,none⟩),w.alloc (.cells z.cells t),G.addρ s.nx w.heap.size,?_,wV.alloc hR _ hn,?_,?_⟩;·simp[execOp,Instr.alloc,rJ hi hz,newVar,newRow]
    ·rw[aI];have:=hR.alloc_cells _ z.cells.toList t (VL.map_ofV (V.ofV 8) _) hn;simpa using this
    ·simp only[V];exact⟨_,yH _ _ _,rfl⟩
   ·cases h
  ·cases h
 ·rename_i t x;cases hs:(ev x).sound with|false=>simp[hs]at h|true=>
   simp only[hs,cond_true,Option.some.injEq]at h;subst h;refine⟨xW.value λG σ w a hR hx hc=>?_,rfl⟩;have hn:σ.H s.nx=none:=hc.al _ _ (List.mem_singleton.2 rfl);obtain⟨hv,_⟩:=(hx x (by simp[Op.operands])).cells hs;refine⟨.pointer (some ⟨w.heap.size,0,none⟩),w.alloc (.cells (a.eval x).cells t),G.addρ s.nx w.heap.size,?_,wV.alloc hR _ hn,?_,?_⟩;·simp[execOp,Instr.box,newVar,newRow]
   ·rw[aI];have:=hR.alloc_cells _ _ t hv hn;simpa using this
   ·simp only[V];exact⟨_,yH _ _ _,rfl⟩
 ·rename_i t x;split at h
  ·rename_i q i off hq he;split at h
   ·rename_i cs hcs;split at h
    ·rename_i r hr;cases h;refine⟨xW.reads λG σ w a hR hx hrd=>?_,rfl⟩;have hX:=hrd _ _ (List.mem_singleton.2 rfl);obtain⟨b,hb,_,hblk⟩:=hR.look hX;obtain⟨vs,T,hh,hl⟩:=hblk;have hxx:=hx x (by simp[Op.operands]);rw[he]at hxx;simp only[V]at hxx;obtain⟨b',hb',hxe⟩:=hxx;rw[hb]at hb';cases hb';obtain⟨u,hu,hv⟩:=J9 hq hh hl hr;exact⟨u,by simp[execOp,hxe,hu],hv⟩
    ·cases h
   ·cases h
  ·cases h
 ·rename_i t x y;split at h
  ·rename_i ti i off hi he;split at h;·rename_i cs hcs;cases hcond:((ev y).sound&&Nat.beq (rG (ev y)).length ti.size&&Nat.ble (off+ti.size) cs.length)with|false=>simp only[hcond,cond_false,reduceCtorEq]at h|true=>
     simp only[hcond,cond_true,Option.some.injEq]at h;subst h;simp only[Bool.and_eq_true]at hcond;obtain⟨⟨c1,c2⟩,c3⟩:=hcond;replace c2:=Nat.eq_of_beq_eq_true c2;replace c3:=Nat.le_of_ble_eq_true c3;refine⟨xW.skip rfl λG σ w a hR hx hc=>?_,rfl⟩;have hX:=hc.wr _ _ _ (List.mem_singleton.2 rfl);obtain⟨b,hb,_,hblk⟩:=hR.look hX;obtain⟨vs,T,hh,hl⟩:=hblk;have hxx:V G w (ev x) (a.eval x):=hx x (by simp[Op.operands]);rw[he]at hxx;simp only[V]at hxx;obtain⟨b',hb',hxe⟩:=hxx;rw[hb]at hb';cases hb';obtain⟨hyv,hy1⟩:=(hx y (by simp[Op.operands])).cells c1;have hyl:=VL.length _ _ hyv;have hvl:=hl.le;have hsz:(a.eval y).cells.size=ti.size:=by rw[<-c2,<-hyl];simp
     have hst:=run_storeCells_at P b off T (a.eval y).cells.toList 0 vs w hh (by simp only[Array.length_toList]at hvl⊢;omega) hy1;simp only[Nat.add_zero]at hst;have hlen:vs.size<=(vs.toList.take off++(a.eval y).cells.toList++vs.toList.drop (off+(a.eval y).cells.toList.length)).length:=by simp only[List.length_append,List.length_take,List.length_drop,Array.length_toList]at hvl⊢;omega
     refine⟨w.setRow b (vs.toList.take off++(a.eval y).cells.toList++vs.toList.drop (off+(a.eval y).cells.toList.length)).toArray,G,?_,(wV.setRow hR hb _ (λo T' e=>by rw[hh]at e;cases e;simpa using hlen)),?_⟩
     ·simp only[execOp,Sem.run_bind,hxe,Instr.storeAt,Instr.sureAddr,Sem.run_pure,Result.andThen_ok,storeVar,wB hi];rw[if_neg (by simp[hsz])];simp only[Result.andThen_ok,hst]
     ·rw[aJ];exact hR.setRow hb (by rw[hX];simp) _ _ hlen hh (gT.splice hl hyv off (by show off+(rG (ev y)).length<=cs.length;omega))
   ·cases h
  ·cases h
 ·rename_i t len parts;split at h
  ·rename_i e hut;split at h
   ·rename_i ie hie;split at h;·rename_i z hz;cases hcond:(Nat.beq z.cells.size ie.size&&Nat.ble (len*ie.size) 16777216&&Nat.ble 1 ie.size)with|false=>simp only[hcond,cond_false,reduceCtorEq]at h|true=>
      simp only[hcond,cond_true]at h;simp only[Bool.and_eq_true]at hcond;obtain⟨⟨c1,c2⟩,c3⟩:=hcond;replace c1:=Nat.eq_of_beq_eq_true c1;replace c2:=Nat.le_of_ble_eq_true c2;replace c3:=Nat.le_of_ble_eq_true c3;split at h
      ·rename_i cs hcs;cases h;refine⟨xW.value λG σ w a hR hx _=>?_,rfl⟩;have hVP:=VP.map (G:=G) (w:=w) (ev:=ev) (a:=a) parts.toList (λp hp=>hx p.2 (by simp[Op.operands];exact⟨p.1,by simpa using hp⟩));have hzl:∀m,VL G w ((List.range m).map λj=>ofV 8 (z.cells.getD (j%z.cells.size) undef)) ((List.range m).map λj=>z.cells.getD (j%z.cells.size) undef):=by intro m;have:=VL.map_ofV (G:=G) (w:=w) (f:=ofV 8) (V.ofV 8) ((List.range m).map λj=>z.cells.getD (j%z.cells.size) undef);simpa[List.map_map,Function.comp_def]using this
       have hz':((Array.range (len*ie.size)).map (z.cells[·%z.cells.size]!)).toList=(List.range (len*ie.size)).map λj=>z.cells.getD (j%z.cells.size) undef:=by rw[Array.toList_map,Array.toList_range];apply List.map_congr_left;intro j _;have hlt:j%z.cells.size<z.cells.size:=Nat.mod_lt _ (by omega);simp[hlt]
       obtain⟨r',hr',hv⟩:=C1 (G:=G) (w:=w) (J8 ev parts) (parts.toList.map λp=>(p.1,a.eval p.2)) _ ((Array.range (len*ie.size)).map (z.cells[·%z.cells.size]!)) cs hVP (by rw[hz'];exact hzl _) hcs;have hal:=hR.alloc_full cs r'.toList e hv;obtain⟨hE,hR',hC⟩:=hal;refine⟨.slice (some ⟨w.heap.size,0,none⟩) len len,w.alloc (.cells r'.toList.toArray e),_,?_,hE,by rw[Y7 rfl rfl rfl rfl];exact hR',?_⟩
       ·have hq:¬len*ie.size>2^24:=by omega
        simp only[execOp,Sem.run_bind,Instr.buildSlice,run_underlying hut,Sem.run_pure,Result.andThen_ok,wB hie];rw[if_neg hq];have e2:(parts.map λ(i,x)=>(i,a.eval x)).toList=parts.toList.map λp=>(p.1,a.eval p.2):=by rw[Array.toList_map]
        by_cases h0:len*ie.size=0
        ·rw[if_pos h0];have h00:∀f:Nat->Value,Array.map f (Array.range 0)=#[]:=λf=>by simp[Array.range_zero']
         simp only[h0,h00]at hr';simp only[Sem.run_bind,Sem.run_pure,Result.andThen_ok,h0,e2,h00,hr'];simp[newRow]
        ·rw[if_neg h0];simp only[Sem.run_bind,Sem.run_pure,Result.andThen_ok,rJ hie hz,e2,hr'];simp[newRow]
       ·simp only[V];exact⟨len,Nat.le_refl _,.inr ⟨_,0,rfl,hC,rfl⟩⟩
      ·cases h
    ·cases h
   ·cases h
  ·cases h
 ·rename_i t l c;split at h
  ·rename_i e l' c' hut hl hc;split at h
   ·rename_i ie hie;split at h
    ·rename_i z hz;split at h
     ·rename_i hcond;obtain⟨rfl,h0,hb,h63,hzs,h1⟩:=hcond;cases h;refine⟨xW.value λG σ w a hR hx _=>?_,rfl⟩;have hlx:V G w (ev l) (a.eval l):=hx l (by simp[Op.operands]);have hcx:V G w (ev c) (a.eval c):=hx c (by simp[Op.operands]);rw[hl]at hlx;rw[hc]at hcx;simp only[V]at hlx hcx;have hzl:∀m,VL G w ((List.range m).map λj=>ofV 8 (z.cells.getD (j%z.cells.size) undef)) ((List.range m).map λj=>z.cells.getD (j%z.cells.size) undef):=by intro m;have:=VL.map_ofV (G:=G) (w:=w) (f:=ofV 8) (V.ofV 8) ((List.range m).map λj=>z.cells.getD (j%z.cells.size) undef);simpa[List.map_map,Function.comp_def]using this
      have hal:=hR.alloc_full _ _ e (hzl (l'.toNat*ie.size));obtain⟨hE,hR',hC⟩:=hal;refine⟨.slice (some ⟨w.heap.size,0,none⟩) l'.toNat l'.toNat,w.alloc (.cells ((List.range (l'.toNat*ie.size)).map λj=>z.cells.getD (j%z.cells.size) undef).toArray e),_,?_,hE,by rw[Y7 rfl rfl rfl rfl];exact hR',?_⟩
      ·have hz':madeCells z.cells (l'.toNat*ie.size)=((List.range (l'.toNat*ie.size)).map λj=>z.cells.getD (j%z.cells.size) undef).toArray:=by apply Array.ext';rw[madeCells,Array.toList_map,Array.toList_range];apply List.map_congr_left;intro j _;have hlt:j%z.cells.size<z.cells.size:=Nat.mod_lt _ (by omega);simp[hlt]
       have hm:=run_make (P:=P) w t e ie z hut hie hz .i64 .i64 l' l' h0 (Int.le_refl _) (by rw[Int.mul_comm];omega) h63;rw[hz']at hm;simp[execOp,hlx,hcx,hm]
      ·simp only[V];exact⟨l'.toNat,Nat.le_refl _,.inr ⟨_,0,rfl,hC,rfl⟩⟩
     ·cases h
    ·cases h
   ·cases h
  ·cases h
 ·rename_i t;cases h;refine⟨xW.value λG σ w a hR _ hc=>?_,rfl⟩;have hn:σ.H s.nx=none:=hc.al _ _ (List.mem_singleton.2 rfl);refine⟨.map (some w.heap.size),w.alloc (.map #[] 0),G.addρ s.nx w.heap.size,?_,wV.alloc hR _ hn,?_,?_⟩;·simp[execOp,Instr.makeMap]
  ·rw[aI];exact hR.alloc_obj (.map #[] 0) trivial hn
  ·simp only[V];exact⟨_,yH _ _ _,rfl⟩
 ·cases h
def mG(P:Program)(t t2:TypeId)(ev:Operand->AV)(a b:AV)(s:yW):Option LA:=match P.underlying t,a,b with
 |some (.slice e),.sl es n o,.sl es2 n2 _=>match P.info? e with
  |some ie=>match ie.zero with
   |some z=>bif Nat.beq t t2&&Nat.beq es.length (n*ie.size)&&Nat.beq es2.length (n2*ie.size)&&Nat.ble 1 ie.size&&Nat.beq z.cells.size ie.size&&Nat.ble ((n+n2)*ie.bytes) 140737488355328&&Nat.ble (n+n2) 4611686018427387904&&es2.all AV.one then bif Nat.beq n2 0 then some {ev:=ev,v:=.sl es n o}else match o with|.full=>some {ev:=ev,ns:=s.ns,new:=1,v:=.sl (es++es2) (n+n2) (.st s.ns ie.size)}|.st k sz=>bif s.own.any (Nat.beq k)&&Nat.beq sz ie.size then some {ev:=ev,use:=[k],ns:=s.ns,new:=1,v:=.sl (es++es2) (n+n2) (.st s.ns ie.size)}else none|.nl=>some {ev:=ev,ns:=s.ns,new:=1,v:=.sl (es++es2) (n+n2) (.st s.ns ie.size)}|_=>none else none|none=>none
  |none=>none
 |_,_,_=>none
theorem qP{P:Program}{w:World}{t ty e:TypeId}{ie:TypeInfo}(ht:P.underlying t=some (.slice e))(hi:P.info? e=some ie)(base b2:Option Addr)(n cap c2:Nat)(hcap:n<=cap)(h2:b2=none\/∃a,b2=some a):(Builtin.append_ #[t,t] ty #[.slice base n cap,.slice b2 0 c2]).run P w=.ok (.slice base n cap) w:=by rcases h2 with rfl|⟨a,rfl⟩<;>cases base<;>simp[Builtin.append_,run_underlying ht,sizeOf,typeInfo,hi,Builtin.lenOf,Builtin.firstCells,hcap,loadCells,loadCellsFrom,storeCells]
theorem pM{P:Program}{w:World}{t ty e:TypeId}{i:TypeInfo}{T:TypeId}(ht:P.underlying t=some (.slice e))(hi:P.info? e=some i)(g off sLen sCap:Nat)(cur:Array Value)(hg:w.heap[g]?=some (.cells cur T (0,0)))(a:Addr)(m c:Nat)(news:List Value)(hl:news.length=m*i.size)(hnews:∀j u,news[j]?=some u->w.cell? (a.add j)=some u)(h1:∀u∈news,u.oneCell'=true)(hroom:sLen+m<=sCap)(hfit:off+sLen*i.size+news.length<=cur.size):(Builtin.append_ #[t,t] ty #[.slice (some ⟨g,off,none⟩) sLen sCap,.slice (some a) m c]).run P w=.ok (.slice (some ⟨g,off,none⟩) (sLen+m) sCap) (w.setRow g (cur.toList.take (off+sLen*i.size)++news++cur.toList.drop (off+sLen*i.size+news.length)).toArray):=by have hf:=run_firstCells_some (P:=P) w i.size m a m c news hl hnews;have hst:=run_storeCells_at P g (off+sLen*i.size) T news 0 cur w hg (by simpa using hfit) h1;simp only[Nat.add_zero]at hst;simp[Builtin.append_,run_underlying ht,sizeOf,typeInfo,hi,Builtin.lenOf,hroom,hf,Addr.add_lit,hst]
set_option maxHeartbeats 2000000 in theorem zHA{P:Program}{dst:Option Tmp}{type:TypeId}{pos:String}{after:Array Edge}{guard:Option (Nat×Bool)}{t t2:TypeId}{x y:Operand}{ev:Operand->AV}{s:yW}{la:LA}(h:mG P t t2 ev (ev x) (ev y) s=some la):xW P ⟨dst,.call {callee:=.builtin .append,args:=#[x,y],argTypes:=#[t,t2]},type,pos,after,guard⟩ la/\la.ev=ev:=by
 unfold mG at h;split at h
 ·rename_i e es n o es2 n2 o2 hut hex hey;split at h
  ·rename_i ie hie;split at h;·rename_i z hz;generalize hc:(Nat.beq t t2&&Nat.beq es.length (n*ie.size)&&Nat.beq es2.length (n2*ie.size)&&Nat.ble 1 ie.size&&Nat.beq z.cells.size ie.size&&Nat.ble ((n+n2)*ie.bytes) 140737488355328&&Nat.ble (n+n2) 4611686018427387904&&es2.all AV.one)=cond at h;cases cond with|false=>cases h|true=>
    simp only[cond_true]at h;simp only[Bool.and_eq_true]at hc;obtain⟨⟨⟨⟨⟨⟨⟨c0,c1⟩,c2⟩,c3⟩,c4⟩,c5⟩,c6⟩,c7⟩:=hc;replace c0:=Nat.eq_of_beq_eq_true c0;replace c1:=Nat.eq_of_beq_eq_true c1;replace c2:=Nat.eq_of_beq_eq_true c2;replace c3:=Nat.le_of_ble_eq_true c3;replace c4:=Nat.eq_of_beq_eq_true c4;replace c5:=Nat.le_of_ble_eq_true c5;replace c6:=Nat.le_of_ble_eq_true c6;subst c0;have exec:∀(a:Act)(w:World)(u:Value)(w':World),(Builtin.append_ #[t,t] type #[a.eval x,a.eval y]).run P w=.ok u w'->(execOp a.eval ⟨dst,.call {callee:=.builtin .append,args:=#[x,y],argTypes:=#[t,t]},type,pos,after,guard⟩).run P w=.ok (.value u) w':=by intro a w u w' hr;simp[execOp,resolve,invoke,builtin,hr]
    have opx:∀{Z:Op},Z=.call {callee:=.builtin .append,args:=#[x,y],argTypes:=#[t,t]}->x∈Z.operands/\y∈Z.operands:=by rintro _ rfl;simp[Op.operands,Call.operands]
    cases hn2:Nat.beq n2 0 with|true=>
     simp only[hn2,cond_true,Option.some.injEq]at h;subst h;replace hn2:=Nat.eq_of_beq_eq_true hn2;subst hn2;refine⟨xW.pure λG w a hx=>?_,rfl⟩;have hxx:=hx x (opx rfl).1;have hyy:=hx y (opx rfl).2;rw[hey]at hyy;have hxx':=hxx;rw[hex]at hxx';simp only[V]at hxx' hyy;obtain⟨cap,hcap,h1⟩:=hxx';obtain⟨cap2,_,h2⟩:=hyy;have e2:∃b2 c2,a.eval y=.slice b2 0 c2:=by rcases h2 with⟨_,_,_,h2,_⟩|⟨b,off,h2,_⟩<;>exact⟨_,_,h2⟩
     have e1:∃b1,a.eval x=.slice b1 n cap:=by rcases h1 with⟨_,rfl,rfl,h1,_⟩|⟨b,off,h1,_⟩<;>exact⟨_,h1⟩
     obtain⟨b2,c2',e2⟩:=e2;obtain⟨b1,e1⟩:=e1;refine⟨a.eval x,exec a w _ _ ?_,hex▸hxx⟩;rw[e1,e2];exact qP hut hie b1 b2 n cap c2' hcap (by cases b2<;>simp)|false=>
     simp only[hn2,cond_false]at h;have hn2':0<n2:=by
      rcases Nat.eq_zero_or_pos n2 with e|e;·subst e;cases hn2
      ·exact e
     have src:∀(G:Gh)(w:World)(a:Act),V G w (ev y) (a.eval y)->∃b off c,a.eval y=.slice (some ⟨b,off,none⟩) n2 c/\VC G w es2 b off:=by
      intro G w a hyy;rw[hey]at hyy;simp only[V]at hyy;obtain⟨cap2,_,⟨_,e,_⟩|⟨b,off,e,hC,_⟩⟩:=hyy;·omega
      ·exact⟨b,off,cap2,e,hC⟩
     have grown:∀(G:Gh)(σ:wT)(w:World)(vs1 vs2:List Value)(old:Nat),yK G σ w->VL G w es vs1->VL G w es2 vs2->old<n+n2->∃G',wV G w G' (w.drew.alloc (.cells (vs1.toArray++vs2.toArray++Builtin.zeroCells z.cells (grownCap w (n+n2) old e-(n+n2))) e))/\yK G' (σ.stamp none true) (w.drew.alloc (.cells (vs1.toArray++vs2.toArray++Builtin.zeroCells z.cells (grownCap w (n+n2) old e-(n+n2))) e))/\V G' (w.drew.alloc (.cells (vs1.toArray++vs2.toArray++Builtin.zeroCells z.cells (grownCap w (n+n2) old e-(n+n2))) e)) (.sl (es++es2) (n+n2) (.st σ.ns ie.size)) (.slice (some ⟨w.heap.size,0,none⟩) (n+n2) (grownCap w (n+n2) old e)):=by
      intro G σ w vs1 vs2 old hR hv1 hv2 ho;have hge:=grownCap_ge w (n+n2) old e;have hl:(vs1++vs2).length=(n+n2)*ie.size:=by rw[List.length_append,VL.length _ _ hv1,VL.length _ _ hv2,c1,c2,Nat.add_mul]
      have hE:=wV.drew G w;obtain⟨q1,q2,q3⟩:=(yK.drew hR).alloc_live (es++es2) (vs1++vs2) (Builtin.zeroCells z.cells (grownCap w (n+n2) old e-(n+n2))).toList e (VL.append _ _ _ _ (VL.mono hE _ _ hv1) (VL.mono hE _ _ hv2));have harr:(vs1++vs2++(Builtin.zeroCells z.cells (grownCap w (n+n2) old e-(n+n2))).toList).toArray=vs1.toArray++vs2.toArray++Builtin.zeroCells z.cells (grownCap w (n+n2) old e-(n+n2)):=by apply Array.ext';simp
      rw[harr]at q1 q2 q3;refine⟨_,hE.trans q1,q2,?_⟩;simp only[V];refine⟨_,hge,.inr ⟨w.heap.size,0,rfl,q3,?_⟩⟩;refine⟨⟨_,yH _ _ _⟩,.inr ⟨by rw[List.length_append,c1,c2,Nat.add_mul],hR.fnew,?_⟩⟩;show up _ σ.ns _ σ.ns=_;rw[yH];have hzl:(Builtin.zeroCells z.cells (grownCap w (n+n2) old e-(n+n2))).toList.length=(grownCap w (n+n2) old e-(n+n2))*ie.size:=by rw[Array.length_toList,size_zeroCells,c4]
      have hes:(es++es2).length=(vs1++vs2).length:=by rw[hl,List.length_append,c1,c2,Nat.add_mul]
      have htot:(vs1++vs2).length+(Builtin.zeroCells z.cells (grownCap w (n+n2) old e-(n+n2))).toList.length=grownCap w (n+n2) old e*ie.size:=by rw[hl,hzl,<-Nat.add_mul];congr 1;omega
      rw[hes,htot];simp
     have rung:∀(G:Gh)(w:World)(a:Act)(b off cap:Nat),a.eval x=.slice (some ⟨b,off,none⟩) n cap->VC G w es b off->cap<n+n2->V G w (ev y) (a.eval y)->∃vs1 vs2,VL G w es vs1/\VL G w es2 vs2/\(Builtin.append_ #[t,t] type #[a.eval x,a.eval y]).run P w=.ok (.slice (some ⟨w.heap.size,0,none⟩) (n+n2) (grownCap w (n+n2) cap e)) (w.drew.alloc (.cells (vs1.toArray++vs2.toArray++Builtin.zeroCells z.cells (grownCap w (n+n2) cap e-(n+n2))) e)):=by
      intro G w a b off cap hxe hC hcap hyy;obtain⟨b2,off2,cc,hye,hC2⟩:=src G w a hyy;obtain⟨vs1,hv1,hcell1⟩:=VC.cells _ _ _ hC;obtain⟨vs2,hv2,hcell2⟩:=VC.cells _ _ _ hC2;refine⟨vs1,vs2,hv1,hv2,?_⟩;rw[hxe,hye];refine run_append_grow (P:=P) w t type e ie z hut hie hz ⟨b,off,none⟩ n cap vs1 (by rw[VL.length _ _ hv1,c1]) (λj v hj=>?_) ⟨b2,off2,none⟩ n2 cc vs2 (by rw[VL.length _ _ hv2,c2]) (λj v hj=>?_) hcap (by omega) (growslice_fits hcap c5)
      ·obtain⟨hj1,hj2⟩:=List.getElem?_eq_some_iff.1 hj;rw[Addr.add_lit,hcell1 j hj1,hj2]
      ·obtain⟨hj1,hj2⟩:=List.getElem?_eq_some_iff.1 hj;rw[Addr.add_lit,hcell2 j hj1,hj2]
     split at h
     ·cases h;refine⟨xW.value λG σ w a hR hx hcn=>?_,rfl⟩;have hns:s.ns=σ.ns:=hcn.ns (.inr (.inl (by simp)));have hxx:V G w (ev x) (a.eval x):=hx x (opx rfl).1;have hyy:V G w (ev y) (a.eval y):=hx y (opx rfl).2;rw[hex]at hxx;simp only[V]at hxx;obtain⟨cap,hcap,⟨rfl,rfl,rfl,hxe,_⟩|⟨b,off,hxe,hC,hfull⟩⟩:=hxx
      ·obtain⟨b2,off2,cc,hye,hC2⟩:=src G w a hyy;obtain⟨vs2,hv2,hcell2⟩:=VC.cells _ _ _ hC2;obtain⟨G',g1,g2,g3⟩:=grown G σ w [] vs2 0 hR (by simp[VL]) hv2 (by omega);have hr:(Builtin.append_ #[t,t] type #[.slice (jY (a.eval x)) 0 0,.slice (some ⟨b2,off2,none⟩) n2 cc]).run P w=.ok (.slice (some ⟨w.heap.size,0,none⟩) n2 (grownCap w n2 0 e)) (w.drew.alloc (.cells (vs2.toArray++Builtin.zeroCells z.cells (grownCap w n2 0 e-n2)) e)):=by cases jY (a.eval x)with|none=>exact run_append_nil (P:=P) w t type e ie z hut hie hz ⟨b2,off2,none⟩ n2 cc vs2 (by rw[VL.length _ _ hv2,c2]) (λj v hj=>by obtain⟨hj1,hj2⟩:=List.getElem?_eq_some_iff.1 hj;rw[Addr.add_lit,hcell2 j hj1,hj2]) hn2' (by omega) (by simp only[Nat.zero_add]at c5;omega)|some q=>have:=run_append_grow (P:=P) w t type e ie z hut hie hz q 0 0 [] (by simp) (λj v hj=>by simp at hj) ⟨b2,off2,none⟩ n2 cc vs2 (by rw[VL.length _ _ hv2,c2]) (λj v hj=>by obtain⟨hj1,hj2⟩:=List.getElem?_eq_some_iff.1 hj;rw[Addr.add_lit,hcell2 j hj1,hj2]) (by omega) (by omega) (growslice_fits (by omega) c5);simpa using this
       simp only[Nat.zero_add,Array.empty_append,List.nil_append]at g1 g2 g3;refine⟨_,_,G',exec a w _ _ (by rw[hxe,hye];exact hr),g1,by rw[dA];exact g2,?_⟩;rw[hns];simpa using g3
      ·simp only[mV]at hfull;subst hfull;obtain⟨vs1,vs2,hv1,hv2,hr⟩:=rung G w a b off cap hxe hC (by omega) hyy;obtain⟨G',g1,g2,g3⟩:=grown G σ w vs1 vs2 cap hR hv1 hv2 (by omega);exact⟨_,_,G',exec a w _ _ hr,g1,by rw[dA];exact g2,by rw[hns];exact g3⟩
     ·rename_i k sz;cases hk:(s.own.any (Nat.beq k)&&Nat.beq sz ie.size)with|false=>simp only[hk,cond_false,reduceCtorEq]at h|true=>
       simp only[hk,cond_true,Option.some.injEq]at h;subst h;simp only[Bool.and_eq_true]at hk;have hsz2:=Nat.eq_of_beq_eq_true hk.2;subst hsz2;refine⟨xW.value λG σ w a hR hx hcn=>?_,rfl⟩;have hns:s.ns=σ.ns:=hcn.ns (.inr (.inl (by simp)));have hko:σ.own k=true:=hcn.use k (List.mem_singleton.2 rfl);have hxx:V G w (ev x) (a.eval x):=hx x (opx rfl).1;have hyy:V G w (ev y) (a.eval y):=hx y (opx rfl).2;rw[hex]at hxx;simp only[V]at hxx;have drop:∀{G':Gh}{w':World},yK G' (σ.stamp none true) w'->yK G' (σ.stamp (some k) true) w':=by
        intro G' w' g2;refine yK.drop g2 (σ.stamp (some k) true).own (λj hj=>?_);simp only[wT.stamp]at hj⊢;split at hj;·rename_i q;rw[if_pos q]
        ·rename_i q;rw[if_neg q];split at hj;·cases hj
         ·simpa using hj
       obtain⟨cap,hcap,⟨rfl,rfl,rfl,hxe,_⟩|⟨b,off,hxe,hC,ho⟩⟩:=hxx
       ·obtain⟨b2,off2,cc,hye,hC2⟩:=src G w a hyy;obtain⟨vs2,hv2,hcell2⟩:=VC.cells _ _ _ hC2;obtain⟨G',g1,g2,g3⟩:=grown G σ w [] vs2 0 hR (by simp[VL]) hv2 (by omega);have hr:(Builtin.append_ #[t,t] type #[.slice (jY (a.eval x)) 0 0,.slice (some ⟨b2,off2,none⟩) n2 cc]).run P w=.ok (.slice (some ⟨w.heap.size,0,none⟩) n2 (grownCap w n2 0 e)) (w.drew.alloc (.cells (vs2.toArray++Builtin.zeroCells z.cells (grownCap w n2 0 e-n2)) e)):=by cases jY (a.eval x)with|none=>exact run_append_nil (P:=P) w t type e ie z hut hie hz ⟨b2,off2,none⟩ n2 cc vs2 (by rw[VL.length _ _ hv2,c2]) (λj v hj=>by obtain⟨hj1,hj2⟩:=List.getElem?_eq_some_iff.1 hj;rw[Addr.add_lit,hcell2 j hj1,hj2]) hn2' (by omega) (by simp only[Nat.zero_add]at c5;omega)|some q=>have:=run_append_grow (P:=P) w t type e ie z hut hie hz q 0 0 [] (by simp) (λj v hj=>by simp at hj) ⟨b2,off2,none⟩ n2 cc vs2 (by rw[VL.length _ _ hv2,c2]) (λj v hj=>by obtain⟨hj1,hj2⟩:=List.getElem?_eq_some_iff.1 hj;rw[Addr.add_lit,hcell2 j hj1,hj2]) (by omega) (by omega) (growslice_fits (by omega) c5);simpa using this
        simp only[Nat.zero_add,Array.empty_append,List.nil_append]at g1 g2 g3;refine⟨_,_,G',exec a w _ _ (by rw[hxe,hye];exact hr),g1,by rw[dD];exact drop g2,?_⟩;rw[hns];simpa using g3
       ·have grow:cap<n+n2->∃u w' G',(execOp a.eval ⟨dst,.call {callee:=.builtin .append,args:=#[x,y],argTypes:=#[t,t]},type,pos,after,guard⟩).run P w=.ok (.value u) w'/\wV G w G' w'/\yK G' (({ev:=ev,use:=[k],ns:=s.ns,new:=1,v:=.sl (es++es2) (n+n2) (.st s.ns ie.size)}:LA).app σ) w'/\V G' w' (.sl (es++es2) (n+n2) (.st s.ns ie.size)) u:=by intro hlt;obtain⟨vs1,vs2,hv1,hv2,hr⟩:=rung G w a b off cap hxe hC hlt hyy;obtain⟨G',g1,g2,g3⟩:=grown G σ w vs1 vs2 cap hR hv1 hv2 (by omega);exact⟨_,_,G',exec a w _ _ hr,g1,by rw[dD];exact drop g2,by rw[hns];exact g3⟩
        rcases ho with⟨_,⟨_,h0⟩|⟨ho1,hnF,ho2⟩⟩;·exact grow (by omega)
        ·by_cases hroom:n+n2<=cap
         ·have hft:off+es.length<off+cap*ie.size:=by
           have:n*ie.size+1<=cap*ie.size:=by have h1:(n+1)*ie.size<=cap*ie.size:=Nat.mul_le_mul_right _ (by omega);rw[Nat.succ_mul]at h1;omega
           omega
          obtain⟨b',f,tt,q1,q2|⟨hB,hρ,hL0,cur,T,hb,hsz⟩⟩:=hR.own k hko;·rw[ho2]at q1;cases q1;omega
          rw[ho2]at q1;cases q1;obtain⟨b2,off2,cc,hye,hC2⟩:=src G w a hyy;obtain⟨vs2,hv2,hcell2⟩:=VC.cells _ _ _ hC2;have hl2:vs2.length=n2*ie.size:=by rw[VL.length _ _ hv2,c2]
          have hmul:(n+n2)*ie.size<=cap*ie.size:=Nat.mul_le_mul_right _ hroom;rw[Nat.add_mul]at hmul;obtain⟨q1,q2,q3⟩:=hR.appendIn es2 vs2 hv2 hko ho2 hft (by rw[hl2];omega) hb;have hr:=pM (P:=P) (w:=w) (ty:=type) hut hie b off n cap cur hb ⟨b2,off2,none⟩ n2 cc vs2 hl2 (λj v hj=>by obtain⟨hj1,hj2⟩:=List.getElem?_eq_some_iff.1 hj;rw[Addr.add_lit,hcell2 j hj1,hj2]) (VL.all_one _ _ hv2 c7) hroom (by rw[hl2];omega);rw[<-c1]at hr;refine⟨_,_,_,exec a w _ _ (by rw[hxe,hye];exact hr),q1,by rw[dD];exact q2,?_⟩;simp only[V];refine⟨cap,hroom,.inr ⟨b,off,rfl,VC.append _ _ _ _ (VC.mono q1 _ _ _ hC) q3,?_⟩⟩;refine⟨⟨_,by rw[hns];exact yH _ _ _⟩,.inr ⟨by rw[List.length_append,c1,c2,Nat.add_mul],hnF,?_⟩⟩;rw[hns];show up _ σ.ns _ σ.ns=_;rw[yH,List.length_append,hl2,c2,Nat.add_assoc]
         ·exact grow (by omega)
     ·cases h;refine⟨xW.value λG σ w a hR hx hcn=>?_,rfl⟩;have hns:s.ns=σ.ns:=hcn.ns (.inr (.inl (by simp)));have hxx:V G w (ev x) (a.eval x):=hx x (opx rfl).1;have hyy:V G w (ev y) (a.eval y):=hx y (opx rfl).2;rw[hex]at hxx;simp only[V]at hxx;obtain⟨cap,hcap,⟨rfl,rfl,rfl,hxe,hsp⟩|⟨b,off,hxe,hC,hfull⟩⟩:=hxx
      ·rw[show jY (a.eval x)=none from hsp]at hxe;obtain⟨b2,off2,cc,hye,hC2⟩:=src G w a hyy;obtain⟨vs2,hv2,hcell2⟩:=VC.cells _ _ _ hC2;obtain⟨G',g1,g2,g3⟩:=grown G σ w [] vs2 0 hR (by simp[VL]) hv2 (by omega);have hr:=run_append_nil (P:=P) w t type e ie z hut hie hz ⟨b2,off2,none⟩ n2 cc vs2 (by rw[VL.length _ _ hv2,c2]) (λj v hj=>by obtain⟨hj1,hj2⟩:=List.getElem?_eq_some_iff.1 hj;rw[Addr.add_lit,hcell2 j hj1,hj2]) hn2' (by omega) (by simp only[Nat.zero_add]at c5;omega);simp only[Nat.zero_add,Array.empty_append,List.nil_append]at g1 g2 g3;refine⟨_,_,G',exec a w _ _ (by rw[hxe,hye];exact hr),g1,by rw[dA];exact g2,?_⟩;rw[hns];simpa using g3
      ·exact hfull.elim
     ·cases h
   ·cases h
  ·cases h
 ·cases h
def uU(s:ByteArray):List AV:=s.data.toList.map λb=>.val (.int .u8 b.toNat)
theorem zCF(s:ByteArray):(uU s).length=s.size:=by rw[uU,List.length_map,Array.length_toList];rfl
theorem zCG(G:Gh)(w:World)(s:ByteArray):VL G w (uU s) (Lib.strCells s):=by unfold uU Lib.strCells;generalize s.data.toList=l;induction l with|nil=>simp[VL]|cons b l ih=>simp only[List.map_cons,VL,V,true_and];exact ih
def mY(P:Program)(t t2:TypeId)(ev:Operand->AV)(a:AV)(bs:ByteArray)(s:yW):Option LA:=match P.underlying t,P.underlying t2,a with
 |some (.slice e),some .string,.sl es n o=>match P.info? e with
  |some ie=>match ie.zero with
   |some z=>bif Nat.beq es.length (n*ie.size)&&Nat.beq ie.size 1&&Nat.beq z.cells.size ie.size&&Nat.ble ((n+bs.size)*ie.bytes) 140737488355328&&Nat.ble (n+bs.size) 4611686018427387904 then bif Nat.beq bs.size 0 then some {ev:=ev,v:=.sl es n o}else match o with|.full=>some {ev:=ev,ns:=s.ns,new:=1,v:=.sl (es++uU bs) (n+bs.size) (.st s.ns ie.size)}|.st k sz=>bif s.own.any (Nat.beq k)&&Nat.beq sz ie.size then some {ev:=ev,use:=[k],ns:=s.ns,new:=1,v:=.sl (es++uU bs) (n+bs.size) (.st s.ns ie.size)}else none|.nl=>some {ev:=ev,ns:=s.ns,new:=1,v:=.sl (es++uU bs) (n+bs.size) (.st s.ns ie.size)}|_=>none else none|none=>none
  |none=>none
 |_,_,_=>none
theorem bI{P:Program}{w:World}{t u ty e:TypeId}{ie:TypeInfo}(ht:P.underlying t=some (.slice e))(hu:P.underlying u=some .string)(hi:P.info? e=some ie)(hs:ie.size=1)(base:Option Addr)(n cap:Nat)(hcap:n<=cap)(bs:ByteArray)(h0:bs.size=0):(Builtin.append_ #[t,u] ty #[.slice base n cap,.string bs]).run P w=.ok (.slice base n cap) w:=by have hf:=Lib.run_firstCells_string (P:=P) w 1 bs;have hn:Lib.strCells bs=[]:=List.eq_nil_of_length_eq_zero (by rw[Lib.strCells_length];exact h0);rw[h0,hn]at hf;cases base<;>simp[Builtin.append_,run_underlying ht,run_underlying hu,sizeOf,typeInfo,hi,hs,Builtin.lenOf,h0,hcap,hf,storeCells]
theorem pY{P:Program}{w:World}{t u ty e:TypeId}{i:TypeInfo}{T:TypeId}(ht:P.underlying t=some (.slice e))(hu:P.underlying u=some .string)(hi:P.info? e=some i)(g off sLen sCap:Nat)(cur:Array Value)(hg:w.heap[g]?=some (.cells cur T (0,0)))(bs:ByteArray)(hs1:i.size=1)(hroom:sLen+bs.size<=sCap)(hfit:off+sLen*i.size+(Lib.strCells bs).length<=cur.size):(Builtin.append_ #[t,u] ty #[.slice (some ⟨g,off,none⟩) sLen sCap,.string bs]).run P w=.ok (.slice (some ⟨g,off,none⟩) (sLen+bs.size) sCap) (w.setRow g (cur.toList.take (off+sLen*i.size)++Lib.strCells bs++cur.toList.drop (off+sLen*i.size+(Lib.strCells bs).length)).toArray):=by have hf:=Lib.run_firstCells_string (P:=P) w i.size bs;have hst:=run_storeCells_at P g (off+sLen*i.size) T (Lib.strCells bs) 0 cur w hg (by simpa using hfit) (Lib.strCells_oneCell bs);simp only[Nat.add_zero]at hst;simp[Builtin.append_,run_underlying ht,run_underlying hu,sizeOf,typeInfo,hi,Builtin.lenOf,hroom,hf,Addr.add_lit,hst]
set_option maxHeartbeats 2000000 in theorem zEr{P:Program}{dst:Option Tmp}{type:TypeId}{pos:String}{after:Array Edge}{guard:Option (Nat×Bool)}{t t2:TypeId}{x y:Operand}{ev:Operand->AV}{s:yW}{la:LA}{bs:ByteArray}(hey:ev y=.val (.string bs))(h:mY P t t2 ev (ev x) bs s=some la):xW P ⟨dst,.call {callee:=.builtin .append,args:=#[x,y],argTypes:=#[t,t2]},type,pos,after,guard⟩ la/\la.ev=ev:=by
 unfold mY at h;split at h
 ·rename_i e es n o hut hu2 hex;split at h
  ·rename_i ie hie;split at h;·rename_i z hz;generalize hc:(Nat.beq es.length (n*ie.size)&&Nat.beq ie.size 1&&Nat.beq z.cells.size ie.size&&Nat.ble ((n+bs.size)*ie.bytes) 140737488355328&&Nat.ble (n+bs.size) 4611686018427387904)=cond at h;cases cond with|false=>cases h|true=>
    simp only[cond_true]at h;simp only[Bool.and_eq_true]at hc;obtain⟨⟨⟨⟨c1,c3⟩,c4⟩,c5⟩,c6⟩:=hc;replace c1:=Nat.eq_of_beq_eq_true c1;replace c3:=Nat.eq_of_beq_eq_true c3;replace c4:=Nat.eq_of_beq_eq_true c4;replace c5:=Nat.le_of_ble_eq_true c5;replace c6:=Nat.le_of_ble_eq_true c6;have c2:(uU bs).length=bs.size*ie.size:=by rw[zCF,c3,Nat.mul_one]
    have vlen:(Lib.strCells bs).length=bs.size:=Lib.strCells_length bs;have exec:∀(a:Act)(w:World)(u:Value)(w':World),(Builtin.append_ #[t,t2] type #[a.eval x,a.eval y]).run P w=.ok u w'->(execOp a.eval ⟨dst,.call {callee:=.builtin .append,args:=#[x,y],argTypes:=#[t,t2]},type,pos,after,guard⟩).run P w=.ok (.value u) w':=by intro a w u w' hr;simp[execOp,resolve,invoke,builtin,hr]
    have opx:∀{Z:Op},Z=.call {callee:=.builtin .append,args:=#[x,y],argTypes:=#[t,t2]}->x∈Z.operands/\y∈Z.operands:=by rintro _ rfl;simp[Op.operands,Call.operands]
    have src:∀(G:Gh)(w:World)(a:Act),V G w (ev y) (a.eval y)->a.eval y=.string bs:=by intro G w a hyy;rw[hey]at hyy;simpa only[V]using hyy
    cases hn2:Nat.beq bs.size 0 with|true=>
     simp only[hn2,cond_true,Option.some.injEq]at h;subst h;replace hn2:=Nat.eq_of_beq_eq_true hn2;refine⟨xW.pure λG w a hx=>?_,rfl⟩;have hxx:=hx x (opx rfl).1;have hyy:=src G w a (hx y (opx rfl).2);have hxx':=hxx;rw[hex]at hxx';simp only[V]at hxx';obtain⟨cap,hcap,h1⟩:=hxx';have e1:∃b1,a.eval x=.slice b1 n cap:=by rcases h1 with⟨_,rfl,rfl,h1,_⟩|⟨b,off,h1,_⟩<;>exact⟨_,h1⟩
     obtain⟨b1,e1⟩:=e1;refine⟨a.eval x,exec a w _ _ ?_,hex▸hxx⟩;rw[e1,hyy];exact bI hut hu2 hie c3 b1 n cap hcap bs hn2|false=>
     simp only[hn2,cond_false]at h;have hn2':0<bs.size:=by
      rcases Nat.eq_zero_or_pos bs.size with e|e;·rw[e]at hn2;cases hn2
      ·exact e
     have grown:∀(G:Gh)(σ:wT)(w:World)(vs1:List Value)(old:Nat),yK G σ w->VL G w es vs1->old<n+bs.size->∃G',wV G w G' (w.drew.alloc (.cells (vs1.toArray++(Lib.strCells bs).toArray++Builtin.zeroCells z.cells (grownCap w (n+bs.size) old e-(n+bs.size))) e))/\yK G' (σ.stamp none true) (w.drew.alloc (.cells (vs1.toArray++(Lib.strCells bs).toArray++Builtin.zeroCells z.cells (grownCap w (n+bs.size) old e-(n+bs.size))) e))/\V G' (w.drew.alloc (.cells (vs1.toArray++(Lib.strCells bs).toArray++Builtin.zeroCells z.cells (grownCap w (n+bs.size) old e-(n+bs.size))) e)) (.sl (es++uU bs) (n+bs.size) (.st σ.ns ie.size)) (.slice (some ⟨w.heap.size,0,none⟩) (n+bs.size) (grownCap w (n+bs.size) old e)):=by
      intro G σ w vs1 old hR hv1 ho;have hge:=grownCap_ge w (n+bs.size) old e;have hl:(vs1++Lib.strCells bs).length=(n+bs.size)*ie.size:=by rw[List.length_append,VL.length _ _ hv1,vlen,c1,Nat.add_mul,c3,Nat.mul_one,Nat.mul_one]
      have hE:=wV.drew G w;obtain⟨q1,q2,q3⟩:=(yK.drew hR).alloc_live (es++uU bs) (vs1++Lib.strCells bs) (Builtin.zeroCells z.cells (grownCap w (n+bs.size) old e-(n+bs.size))).toList e (VL.append _ _ _ _ (VL.mono hE _ _ hv1) (zCG _ _ bs));have harr:(vs1++Lib.strCells bs++(Builtin.zeroCells z.cells (grownCap w (n+bs.size) old e-(n+bs.size))).toList).toArray=vs1.toArray++(Lib.strCells bs).toArray++Builtin.zeroCells z.cells (grownCap w (n+bs.size) old e-(n+bs.size)):=by apply Array.ext';simp
      rw[harr]at q1 q2 q3;refine⟨_,hE.trans q1,q2,?_⟩;simp only[V];refine⟨_,hge,.inr ⟨w.heap.size,0,rfl,q3,?_⟩⟩;refine⟨⟨_,yH _ _ _⟩,.inr ⟨by rw[List.length_append,c1,c2,Nat.add_mul],hR.fnew,?_⟩⟩;show up _ σ.ns _ σ.ns=_;rw[yH];have hzl:(Builtin.zeroCells z.cells (grownCap w (n+bs.size) old e-(n+bs.size))).toList.length=(grownCap w (n+bs.size) old e-(n+bs.size))*ie.size:=by rw[Array.length_toList,size_zeroCells,c4]
      have hes:(es++uU bs).length=(vs1++Lib.strCells bs).length:=by rw[hl,List.length_append,c1,c2,Nat.add_mul]
      have htot:(vs1++Lib.strCells bs).length+(Builtin.zeroCells z.cells (grownCap w (n+bs.size) old e-(n+bs.size))).toList.length=grownCap w (n+bs.size) old e*ie.size:=by rw[hl,hzl,<-Nat.add_mul];congr 1;omega
      rw[hes,htot];simp
     have rung:∀(G:Gh)(w:World)(a:Act)(b off cap:Nat),a.eval x=.slice (some ⟨b,off,none⟩) n cap->VC G w es b off->cap<n+bs.size->V G w (ev y) (a.eval y)->∃vs1,VL G w es vs1/\(Builtin.append_ #[t,t2] type #[a.eval x,a.eval y]).run P w=.ok (.slice (some ⟨w.heap.size,0,none⟩) (n+bs.size) (grownCap w (n+bs.size) cap e)) (w.drew.alloc (.cells (vs1.toArray++(Lib.strCells bs).toArray++Builtin.zeroCells z.cells (grownCap w (n+bs.size) cap e-(n+bs.size))) e)):=by intro G w a b off cap hxe hC hcap hyy;obtain⟨vs1,hv1,hcell1⟩:=VC.cells _ _ _ hC;refine⟨vs1,hv1,?_⟩;rw[hxe,src G w a hyy];refine Lib.run_append_grow_string (P:=P) w t t2 type e ie z hut hu2 hie hz ⟨b,off,none⟩ n cap vs1 (by rw[VL.length _ _ hv1,c1]) (λj v hj=>?_) bs hcap (by omega) (growslice_fits hcap c5);obtain⟨hj1,hj2⟩:=List.getElem?_eq_some_iff.1 hj;rw[Addr.add_lit,hcell1 j hj1,hj2]
     have run0:∀(w:World)(p:Option Addr),n=0->(Builtin.append_ #[t,t2] type #[.slice p 0 0,.string bs]).run P w=.ok (.slice (some ⟨w.heap.size,0,none⟩) bs.size (grownCap w bs.size 0 e)) (w.drew.alloc (.cells ((Lib.strCells bs).toArray++Builtin.zeroCells z.cells (grownCap w bs.size 0 e-bs.size)) e)):=by intro w p hn0;subst hn0;simp only[Nat.zero_add]at c5 c6;cases p with|none=>have:=run_append_nil_string (P:=P) w t t2 type e ie z hut hu2 hie hz bs hn2' (by omega) (by omega);rw[this];congr 4;unfold Lib.strCells;apply Array.ext';simp|some q=>have:=Lib.run_append_grow_string (P:=P) w t t2 type e ie z hut hu2 hie hz q 0 0 [] (by simp) (λj v hj=>by simp at hj) bs (by omega) (by omega) (growslice_fits (by omega) (by simpa using c5));simpa using this
     split at h
     ·cases h;refine⟨xW.value λG σ w a hR hx hcn=>?_,rfl⟩;have hns:s.ns=σ.ns:=hcn.ns (.inr (.inl (by simp)));have hxx:V G w (ev x) (a.eval x):=hx x (opx rfl).1;have hyy:V G w (ev y) (a.eval y):=hx y (opx rfl).2;rw[hex]at hxx;simp only[V]at hxx;obtain⟨cap,hcap,⟨rfl,rfl,rfl,hxe,_⟩|⟨b,off,hxe,hC,hfull⟩⟩:=hxx
      ·obtain⟨G',g1,g2,g3⟩:=grown G σ w [] 0 hR (by simp[VL]) (by omega);have hr:=run0 w (jY (a.eval x)) rfl;simp only[Nat.zero_add,Array.empty_append,List.nil_append]at g1 g2 g3;refine⟨_,_,G',exec a w _ _ (by rw[hxe,src G w a hyy];exact hr),g1,by rw[dA];exact g2,?_⟩;rw[hns];simpa using g3
      ·simp only[mV]at hfull;subst hfull;obtain⟨vs1,hv1,hr⟩:=rung G w a b off cap hxe hC (by omega) hyy;obtain⟨G',g1,g2,g3⟩:=grown G σ w vs1 cap hR hv1 (by omega);exact⟨_,_,G',exec a w _ _ hr,g1,by rw[dA];exact g2,by rw[hns];exact g3⟩
     ·rename_i k sz;cases hk:(s.own.any (Nat.beq k)&&Nat.beq sz ie.size)with|false=>simp only[hk,cond_false,reduceCtorEq]at h|true=>
       simp only[hk,cond_true,Option.some.injEq]at h;subst h;simp only[Bool.and_eq_true]at hk;have hsz2:=Nat.eq_of_beq_eq_true hk.2;subst hsz2;refine⟨xW.value λG σ w a hR hx hcn=>?_,rfl⟩;have hns:s.ns=σ.ns:=hcn.ns (.inr (.inl (by simp)));have hko:σ.own k=true:=hcn.use k (List.mem_singleton.2 rfl);have hxx:V G w (ev x) (a.eval x):=hx x (opx rfl).1;have hyy:V G w (ev y) (a.eval y):=hx y (opx rfl).2;rw[hex]at hxx;simp only[V]at hxx;have drop:∀{G':Gh}{w':World},yK G' (σ.stamp none true) w'->yK G' (σ.stamp (some k) true) w':=by
        intro G' w' g2;refine yK.drop g2 (σ.stamp (some k) true).own (λj hj=>?_);simp only[wT.stamp]at hj⊢;split at hj;·rename_i q;rw[if_pos q]
        ·rename_i q;rw[if_neg q];split at hj;·cases hj
         ·simpa using hj
       obtain⟨cap,hcap,⟨rfl,rfl,rfl,hxe,_⟩|⟨b,off,hxe,hC,ho⟩⟩:=hxx
       ·obtain⟨G',g1,g2,g3⟩:=grown G σ w [] 0 hR (by simp[VL]) (by omega);have hr:=run0 w (jY (a.eval x)) rfl;simp only[Nat.zero_add,Array.empty_append,List.nil_append]at g1 g2 g3;refine⟨_,_,G',exec a w _ _ (by rw[hxe,src G w a hyy];exact hr),g1,by rw[dD];exact drop g2,?_⟩;rw[hns];simpa using g3
       ·have grow:cap<n+bs.size->∃u w' G',(execOp a.eval ⟨dst,.call {callee:=.builtin .append,args:=#[x,y],argTypes:=#[t,t2]},type,pos,after,guard⟩).run P w=.ok (.value u) w'/\wV G w G' w'/\yK G' (({ev:=ev,use:=[k],ns:=s.ns,new:=1,v:=.sl (es++uU bs) (n+bs.size) (.st s.ns ie.size)}:LA).app σ) w'/\V G' w' (.sl (es++uU bs) (n+bs.size) (.st s.ns ie.size)) u:=by intro hlt;obtain⟨vs1,hv1,hr⟩:=rung G w a b off cap hxe hC hlt hyy;obtain⟨G',g1,g2,g3⟩:=grown G σ w vs1 cap hR hv1 (by omega);exact⟨_,_,G',exec a w _ _ hr,g1,by rw[dD];exact drop g2,by rw[hns];exact g3⟩
        rcases ho with⟨_,⟨_,h0⟩|⟨ho1,hnF,ho2⟩⟩;·exact grow (by omega)
        ·by_cases hroom:n+bs.size<=cap
         ·have hft:off+es.length<off+cap*ie.size:=by
           have:n*ie.size+1<=cap*ie.size:=by have h1:(n+1)*ie.size<=cap*ie.size:=Nat.mul_le_mul_right _ (by omega);rw[Nat.succ_mul]at h1;omega
           omega
          obtain⟨b',f,tt,q1,q2|⟨hB,hρ,hL0,cur,T,hb,hsz⟩⟩:=hR.own k hko;·rw[ho2]at q1;cases q1;omega
          rw[ho2]at q1;cases q1;have hl2:(Lib.strCells bs).length=bs.size*ie.size:=by rw[vlen,c3,Nat.mul_one]
          have hmul:(n+bs.size)*ie.size<=cap*ie.size:=Nat.mul_le_mul_right _ hroom;rw[Nat.add_mul]at hmul;obtain⟨q1,q2,q3⟩:=hR.appendIn (uU bs) (Lib.strCells bs) (zCG _ _ bs) hko ho2 hft (by rw[hl2];omega) hb;have hr:=pY (P:=P) (w:=w) (ty:=type) hut hu2 hie b off n cap cur hb bs c3 hroom (by rw[hl2];omega);rw[<-c1]at hr;refine⟨_,_,_,exec a w _ _ (by rw[hxe,src G w a hyy];exact hr),q1,by rw[dD];exact q2,?_⟩;simp only[V];refine⟨cap,hroom,.inr ⟨b,off,rfl,VC.append _ _ _ _ (VC.mono q1 _ _ _ hC) q3,?_⟩⟩;refine⟨⟨_,by rw[hns];exact yH _ _ _⟩,.inr ⟨by rw[List.length_append,c1,c2,Nat.add_mul],hnF,?_⟩⟩;rw[hns];show up _ σ.ns _ σ.ns=_;rw[yH,List.length_append,hl2,c2,Nat.add_assoc]
         ·exact grow (by omega)
     ·cases h;refine⟨xW.value λG σ w a hR hx hcn=>?_,rfl⟩;have hns:s.ns=σ.ns:=hcn.ns (.inr (.inl (by simp)));have hxx:V G w (ev x) (a.eval x):=hx x (opx rfl).1;have hyy:V G w (ev y) (a.eval y):=hx y (opx rfl).2;rw[hex]at hxx;simp only[V]at hxx;obtain⟨cap,hcap,⟨rfl,rfl,rfl,hxe,hsp⟩|⟨b,off,hxe,hC,hfull⟩⟩:=hxx
      ·obtain⟨G',g1,g2,g3⟩:=grown G σ w [] 0 hR (by simp[VL]) (by omega);have hr:=run0 w (jY (a.eval x)) rfl;simp only[Nat.zero_add,Array.empty_append,List.nil_append]at g1 g2 g3;refine⟨_,_,G',exec a w _ _ (by rw[hxe,src G w a hyy];exact hr),g1,by rw[dA];exact g2,?_⟩;rw[hns];simpa using g3
      ·exact hfull.elim
     ·cases h
   ·cases h
  ·cases h
 ·cases h
def zEq(P:Program)(t t2:TypeId)(ev:Operand->AV)(a b:AV)(s:yW):Option LA:=match b with|.val (.string bs)=>mY P t t2 ev a bs s|b=>mG P t t2 ev a b s
theorem zNP{P:Program}{dst:Option Tmp}{type:TypeId}{pos:String}{after:Array Edge}{guard:Option (Nat×Bool)}{t t2:TypeId}{x y:Operand}{ev:Operand->AV}{s:yW}{la:LA}(h:zEq P t t2 ev (ev x) (ev y) s=some la):xW P ⟨dst,.call {callee:=.builtin .append,args:=#[x,y],argTypes:=#[t,t2]},type,pos,after,guard⟩ la/\la.ev=ev:=by
 unfold zEq at h;split at h
 ·rename_i bs hb;exact zEr hb h
 ·exact zHA h
def bS(cs:List AV)(off n z:Nat):List AV:=(cs.drop off).take (n*z)
inductive gX where|row(i:Nat)(cs:List AV)|nil
def aK(H:List (Nat×yM)):AV->Option (gX×Nat×List AV)
 |.ms i 0 n _ _=>match look H i with|some (.row cs)=>some (.row i cs,n,cs)|_=>none
 |.sl [] 0 .nl=>some (.nil,0,[])|.sl [] 0 .full=>some (.nil,0,[])|_=>none
def aL(H:List (Nat×yM)):AV->Option (Option (Nat×List AV)×List AV×Nat×Nat)
 |.ms j off n c z=>match look H j with|some (.row cs)=>some (some (j,cs),bS cs off n z,n,z)|_=>none
 |.sl es n _=>some (none,es,n,0)|_=>none
def srd:Option (Nat×List AV)->List (Nat×yM)|some q=>[(q.1,.row q.2)]|none=>[]
def lY(P:Program)(t t2:TypeId)(z1:Option Nat)(cs:List AV)(n:Nat)(src:Option (Nat×Nat×Nat))(es:List AV)(n2:Nat):Option (List AV×Nat):=match P.underlying t with
 |some (.slice e)=>match P.info? e with
  |some ie=>match ie.zero with|some z=>if t=t2/\cs.length=n*ie.size/\es.length=n2*ie.size/\1<=ie.size/\z.cells.size=ie.size/\(n+n2)*ie.bytes<=140737488355328/\n+n2<=4611686018427387904/\es.all AV.one=true/\n2≠0/\(∀q,z1=some q->q=ie.size)/\(∀q,src=some q->q.2.2=ie.size)then some (cs++es,n+n2)else none|none=>none
  |none=>none
 |none=>none|_=>none
def gX.wr:gX->List (Nat×yM×yM)|.row i cs=>[(i,.row cs,.dead)]|.nil=>[]
def gX.z(x:AV):gX->Option Nat
 |.row _ _=>match x with|.ms _ _ _ _ z=>some z|_=>none
 |.nil=>none
theorem zEp{ev:Operand->AV}{rd:List (Nat×yM)}{i j:Nat}{X Y Z:yM}{v:AV}{σ:wT}:({ev:=ev,rd:=rd,wr:=[(i,X,Y)],al:=[(j,Z)],v:=v}:LA).app σ=⟨up (up σ.H i Y) j Z,σ.own,σ.ns⟩:=by unfold LA.app;show(wT.mk (up (up σ.H i Y) j Z) σ.own σ.ns).stamps [] 0=_;rw[wT.stamps_zero]
def kW(P:Program)(t:TypeId):Nat:=match P.underlying t with
 |some (.slice e)=>match P.info? e with|some ie=>ie.size|none=>0
 |_=>0
theorem yK.bury{G:Gh}{σ:wT}{w:World}(h:yK G σ w){i:Nat}{X:yM}(hX:σ.H i=some X):yK G ⟨up σ.H i .dead,σ.own,σ.ns⟩ w:=by
 refine⟨λj=>?_,?_,λj k c hj hk=>?_,λj c Y hj hY=>?_,h.live,h.τns,h.own,h.ownd,h.below,h.base⟩
 ·show jZ (G.ρ j) (G.N j) (up σ.H i _ j);by_cases e:j=i
  ·subst e;rw[yH];have hd:=h.dom j;rw[hX]at hd;refine⟨λe=>?_,λe=>(by cases e),λe=>⟨(hd.2.2 e).1,λY hY=>?_⟩⟩
   ·rcases hd.1 e with q|q;·exact .inl q
    ·cases q
   ·cases hY;trivial
  ·rw[xA _ _ e];exact h.dom j
 ·obtain⟨N,hN⟩:=h.fin;refine⟨max N (i+1),λj hj=>?_⟩;show up σ.H i _ j=none;rw[xA _ _ (by omega)];exact hN j (by omega)
 ·have hne:∀t,σ.H t=some .dead->up σ.H i .dead t=some .dead:=λt ht=>by
   by_cases e:t=i;·subst e;exact yH _ _ _
   ·rw[xA _ _ e];exact ht
  exact(h.inj j k c hj hk).imp id (Or.imp (hne j) (hne k))
 ·rcases nC hY with⟨rfl,rfl⟩|⟨e,hY⟩
  ·obtain⟨q1,q2⟩:=h.blk j c X hj hX;exact⟨q1,q2.lt⟩
  ·exact h.blk j c Y hj hY
theorem yK.renew{G:Gh}{σ:wT}{w:World}(h:yK G σ w){i j b:Nat}{X Z:yM}(hX:σ.H i=some X)(hd:X≠.dead)(hi:G.ρ i=some b)(hj:σ.H j=none)(hZ:vN (G.addρ j b) w b Z):wV G w (G.addρ j b) w/\yK (G.addρ j b) ⟨up (up σ.H i .dead) j Z,σ.own,σ.ns⟩ w:=by
 have hij:i≠j:=λe=>by subst e;rw[hX]at hj;cases hj
 have hE:wV G w (G.addρ j b) w:=⟨λ_ _ e=>gU (((h.dom j).2.1 hj).1) e,λ_ _ e=>e,λ_ _ e=>e,λ_ _ _=>rfl,rfl,rfl,λ_ _ e=>.inl e,λ_ _ _ _ r=>r,λ_ e=>e⟩;have hB:=h.bury hX;refine⟨hE,λk=>?_,?_,λk l c hk hl=>?_,λk c Y hk hY=>?_,λc o hL=>?_,h.τns,λk hk=>?_,h.ownd,h.below,h.base⟩
 ·show jZ (up G.ρ j b k) (G.N k) (up (up σ.H i .dead) j Z k);by_cases e:k=j;·subst e;rw[yH,yH];exact .some ((h.dom k).2.1 hj).2
  ·rw[xA _ _ e,xA _ _ e];exact hB.dom k
 ·obtain⟨N,hN⟩:=hB.fin;refine⟨max N (j+1),λk hk=>?_⟩;show up _ j Z k=none;rw[xA _ _ (by omega)];exact hN k (by omega)
 ·have key:∀t,t≠j->G.ρ t=some b->up σ.H i .dead t=some .dead:=by
   intro t ht e;rcases h.inj t i b e hi with q|q|q;·subst q;exact yH _ _ _
   ·by_cases e2:t=i;·subst e2;exact yH _ _ _
    ·rw[xA _ _ e2];exact q
   ·rw[hX]at q;exact(hd (Option.some.inj q)).elim
  show k=l\/up _ j Z k=_\/up _ j Z l=_;have hk':up G.ρ j b k=some c:=hk;have hl':up G.ρ j b l=some c:=hl;by_cases h1:k=j
  ·by_cases h2:l=j;·exact .inl (h1.trans h2.symm)
   ·subst h1;rw[yH]at hk';rw[xA _ _ h2]at hl';cases hk';right;right;rw[xA _ _ h2];exact key l h2 hl'
  ·rw[xA _ _ h1]at hk';by_cases h2:l=j
   ·subst h2;rw[yH]at hl';cases hl';right;left;rw[xA _ _ h1];exact key k h1 hk'
   ·rw[xA _ _ h2]at hl';rw[xA _ _ h1,xA _ _ h2];exact hB.inj k l c hk' hl'
 ·rcases nC hk with⟨rfl,rfl⟩|⟨hne,hk⟩
  ·have hY':up (up σ.H i .dead) k Z k=some Y:=hY;rw[yH]at hY';cases hY';exact⟨(h.blk i c X hi hX).1,hZ⟩
  ·have hY':up (up σ.H i .dead) j Z k=some Y:=hY;rw[xA _ _ hne]at hY';obtain⟨q1,q2⟩:=hB.blk k c Y hk hY';exact⟨q1,vN.mono hE rfl q2⟩
 ·obtain⟨q1,q2⟩:=h.live c o hL;refine⟨q1,λk hk=>?_⟩;rcases nC hk with⟨_,e⟩|⟨_,hk⟩;·subst e;exact q2 i hi
  ·exact q2 k hk
 ·obtain⟨c,f,t,q1,q2|⟨q2,q3,q4,q5⟩⟩:=h.own k hk;·exact⟨c,f,t,q1,.inl q2⟩
  refine⟨c,f,t,q1,.inr ⟨q2,λl hl=>?_,q4,q5⟩⟩;rcases nC hl with⟨_,e⟩|⟨_,hl⟩;·subst e;exact q3 i hi
  ·exact q3 l hl
def Gh.addN(G:Gh)(j:Nat):Gh:={G with N:=λk=>G.N k\/k=j}
theorem wV.addN(G:Gh)(w:World)(j:Nat):wV G w (G.addN j) w:=⟨λ_ _ e=>e,λ_ _ e=>e,λ_ _ e=>e,λ_ _ _=>rfl,rfl,rfl,λ_ _ e=>.inl e,λ_ _ _ _ r=>r,λ_ e=>.inl e⟩
theorem yK.nilrow{G:Gh}{σ:wT}{w:World}(h:yK G σ w){j:Nat}(hj:σ.H j=none):yK (G.addN j) ⟨up σ.H j (.row []),σ.own,σ.ns⟩ w:=by
 have hE:=wV.addN G w j;have hρj:=((h.dom j).2.1 hj).1;refine⟨λk=>?_,?_,λk l c hk hl=>?_,λk c Y hk hY=>?_,h.live,h.τns,h.own,h.ownd,h.below,h.base⟩
 ·show jZ (G.ρ k) (G.N k\/k=j) (up σ.H j (.row []) k);by_cases e:k=j
  ·subst e;rw[yH,hρj];exact⟨λ_=>.inl (.inr rfl),λe=>(by cases e),λ_=>⟨rfl,λY hY=>by cases hY;trivial⟩⟩
  ·rw[xA _ _ e];have hd:=h.dom k;exact⟨λq=>(hd.1 q).imp .inl id,λq=>⟨(hd.2.1 q).1,λr=>r.elim (hd.2.1 q).2 e⟩,λr=>r.elim hd.2.2 λr=>absurd r e⟩
 ·obtain⟨N,hN⟩:=h.fin;refine⟨max N (j+1),λk hk=>?_⟩;show up σ.H j _ k=none;rw[xA _ _ (by omega)];exact hN k (by omega)
 ·have hne:∀t,σ.H t=some .dead->up σ.H j (.row []) t=some .dead:=λt ht=>by rw[xA _ _ (λe=>by subst e;rw[hj]at ht;cases ht)];exact ht
  exact(h.inj k l c hk hl).imp id (Or.imp (hne k) (hne l))
 ·have hk':G.ρ k=some c:=hk;have e:k≠j:=λe=>by subst e;rw[hρj]at hk';cases hk'
  have hY':up σ.H j (.row []) k=some Y:=hY;rw[xA _ _ e]at hY';obtain⟨q1,q2⟩:=h.blk k c Y hk' hY';exact⟨q1,vN.mono hE rfl q2⟩
theorem gT.part{G:Gh}{w:World}{cs:List AV}{vs:List Value}(h:gT G w cs vs){off n z:Nat}(hl:(bS cs off n z).length=n*z):∃us:List Value,VL G w (bS cs off n z) us/\us.length=n*z/\∀j v,us[j]?=some v->vs[off+j]?=some v:=by
 obtain⟨us,rest,rfl,hv⟩:=h;have hvl:=VL.length _ _ hv;have hd:VL G w (bS cs off n z) ((us.drop off).take (n*z)):=VL.take _ _ _ (VL.drop _ _ _ hv);have h2:=VL.length _ _ hd;refine⟨_,hd,by rw[h2,hl],λj v hj=>?_⟩;obtain⟨h3,h4⟩:=List.getElem?_eq_some_iff.1 hj;have h5:off+j<us.length:=by simp only[List.length_take,List.length_drop]at h3;omega
 rw[List.getElem?_append_left h5];rw[List.getElem?_take]at hj;split at hj;·rw[List.getElem?_drop]at hj;exact hj
 ·cases hj
theorem zEo{H:List (Nat×yM)}{a:AV}{n:Nat}{cs:List AV}(h:aK H a=some (.nil,n,cs)):n=0/\cs=[]/\(a=.sl [] 0 .nl\/a=.sl [] 0 .full):=by
 unfold aK at h;split at h;·split at h<;>cases h
 ·cases h;exact⟨rfl,rfl,.inl rfl⟩
 ·cases h;exact⟨rfl,rfl,.inr rfl⟩
 ·cases h
theorem dF{G:Gh}{w:World}{a:AV}{u:Value}(h:a=.sl [] 0 .nl\/a=.sl [] 0 .full)(hv:V G w a u):∃p,u=.slice p 0 0:=by
 rcases h with rfl|rfl
 ·simp only[V]at hv;obtain⟨cap,_,⟨_,_,rfl,hu,_⟩|⟨b,off,_,_,hf⟩⟩:=hv;·exact⟨_,hu⟩
  ·exact hf.elim
 ·simp only[V]at hv;obtain⟨cap,_,⟨_,_,rfl,hu,_⟩|⟨b,off,hu,_,hf⟩⟩:=hv;·exact⟨_,hu⟩
  ·simp only[mV]at hf;subst hf;exact⟨_,hu⟩
set_option maxHeartbeats 4000000 in theorem zJe{P:Program}{dst:Option Tmp}{type:TypeId}{pos:String}{after:Array Edge}{guard:Option (Nat×Bool)}{t t2:TypeId}{x y:Operand}{ev:Operand->AV}{s:yW}{d:gX}{cs es:List AV}{n n2 z2:Nat}{sr:Option (Nat×List AV)}{cs':List AV}{n':Nat}(hd:aK s.H (ev x)=some (d,n,cs))(hs:aL s.H (ev y)=some (sr,es,n2,z2))(h:lY P t t2 (d.z (ev x)) cs n (sr.map λq=>(q.1,q.1,z2)) es n2=some (cs',n')):xW P ⟨dst,.call {callee:=.builtin .append,args:=#[x,y],argTypes:=#[t,t2]},type,pos,after,guard⟩ {ev:=ev,rd:=srd sr,wr:=d.wr,al:=[(s.nx,.row cs')],v:=.ms s.nx 0 n' n' (kW P t)}:=by
 unfold lY at h;split at h
 ·rename_i e hut;split at h
  ·rename_i ie hie;split at h
   ·rename_i z hz;split at h
    ·rename_i hc;obtain⟨rfl,c1,c2,c3,c4,c5,c6,c7,hn2,hz1,hz2⟩:=hc;cases h;have hszO:kW P t=ie.size:=by simp[kW,hut,hie]
     have exec:∀(a:Act)(w:World)(u:Value)(w':World),(Builtin.append_ #[t,t] type #[a.eval x,a.eval y]).run P w=.ok u w'->(execOp a.eval ⟨dst,.call {callee:=.builtin .append,args:=#[x,y],argTypes:=#[t,t]},type,pos,after,guard⟩).run P w=.ok (.value u) w':=by intro a w u w' hr;simp[execOp,resolve,invoke,builtin,hr]
     have opx:∀{Z:Op},Z=.call {callee:=.builtin .append,args:=#[x,y],argTypes:=#[t,t]}->x∈Z.operands/\y∈Z.operands:=by rintro _ rfl;simp[Op.operands,Call.operands]
     refine xW.value λG σ w a hR hx hcn=>?_;have hxx:V G w (ev x) (a.eval x):=hx x (opx rfl).1;have hyy:V G w (ev y) (a.eval y):=hx y (opx rfl).2;have hnx:σ.H s.nx=none:=hcn.al _ _ (List.mem_singleton.2 rfl);have src:∃(b2 off2 c:Nat)(news:List Value),a.eval y=.slice (some ⟨b2,off2,none⟩) n2 c/\news.length=n2*ie.size/\VL G w es news/\∀j v,news[j]?=some v->w.cell? ⟨b2,off2+j,none⟩=some v:=by
      unfold aL at hs;split at hs
      ·rename_i j off m mc zz hy;split at hs
       ·rename_i c0 hl;cases hs;have hrd:σ.H j=some (.row c0):=hcn.rd _ _ (List.mem_singleton.2 rfl);rw[hy]at hyy;simp only[V]at hyy;obtain⟨b2,cap,hb2,hcc,o2,hye,⟨eo,_⟩|⟨e0,_⟩⟩|⟨⟨e0,_⟩,_⟩:=hyy;rotate_left;·exact(hn2 (by omega)).elim
        ·exact(hn2 e0).elim
        have eo':=eo.symm;subst eo';obtain⟨_,vs,T,hh,hvp⟩:=hR.blk j b2 _ hb2 hrd;have hzz:z2=ie.size:=hz2 _ rfl;subst hzz;obtain⟨us,h1,h2,h3⟩:=gT.part hvp c2;refine⟨b2,off,cap,us,hye,h2,h1,λk v hk=>?_⟩;have:=h3 k v hk;simp only[World.cell?,hh];simpa using this
       ·cases hs
      ·rename_i hy;cases hs;rw[hy]at hyy;simp only[V]at hyy;obtain⟨cap2,_,⟨_,e0,_⟩|⟨b2,off,hye,hC,_⟩⟩:=hyy;·exact(hn2 e0).elim
       ·obtain⟨vs2,hv2,hcell2⟩:=VC.cells _ _ _ hC;refine⟨b2,off,cap2,vs2,hye,by rw[VL.length _ _ hv2,c2],hv2,λj v hj=>?_⟩;obtain⟨hj1,hj2⟩:=List.getElem?_eq_some_iff.1 hj;rw[hcell2 j hj1,hj2]
      ·cases hs
     obtain⟨b2,off2,cc,news,hye,hnl,hnv,hnc⟩:=src;have nK:∀(σ1:wT)(olds:List Value)(old:Nat),yK G σ1 w->σ1.H s.nx=none->VL G w cs olds->old<n+n2->∃G',wV G w G' (w.drew.alloc (.cells (olds.toArray++news.toArray++Builtin.zeroCells z.cells (grownCap w (n+n2) old e-(n+n2))) e))/\yK G' ⟨up σ1.H s.nx (.row (cs++es)),σ1.own,σ1.ns⟩ (w.drew.alloc (.cells (olds.toArray++news.toArray++Builtin.zeroCells z.cells (grownCap w (n+n2) old e-(n+n2))) e))/\V G' (w.drew.alloc (.cells (olds.toArray++news.toArray++Builtin.zeroCells z.cells (grownCap w (n+n2) old e-(n+n2))) e)) (.ms s.nx 0 (n+n2) (n+n2) (kW P t)) (.slice (some ⟨w.heap.size,0,none⟩) (n+n2) (grownCap w (n+n2) old e)):=by intro σ1 olds old hR1 hn1 hv1 ho;have hge:=grownCap_ge w (n+n2) old e;have hE0:=wV.drew G w;have hR2:=yK.drew hR1;have hv:VL G w.drew (cs++es) (olds++news):=VL.append _ _ _ _ (VL.mono hE0 _ _ hv1) (VL.mono hE0 _ _ hnv);have hE1:=wV.alloc hR2 (.cells (olds.toArray++news.toArray++Builtin.zeroCells z.cells (grownCap w (n+n2) old e-(n+n2))) e) hn1;refine⟨_,hE0.trans hE1,hR2.alloc _ (.row (cs++es)) hn1 ⟨_,e,wL _ _,olds++news,(Builtin.zeroCells z.cells (grownCap w (n+n2) old e-(n+n2))).toList,by simp,VL.mono hE1 _ _ hv⟩,?_⟩;simp only[V];refine .inl ⟨w.heap.size,_,yH _ _ _,⟨Nat.le_refl _,hge⟩,0,rfl,.inl ⟨rfl,_,e,wL _ _,?_⟩⟩;have hol:=VL.length _ _ hv1;rw[hszO];simp only[Array.size_append,List.size_toArray,size_zeroCells,c4,hol,c1,hnl,Nat.zero_add];rw[<-Nat.add_mul,<-Nat.add_mul];exact Nat.mul_le_mul_right _ (by omega)
     cases hdd:d with|nil=>
      subst hdd;obtain⟨rfl,rfl,hxs⟩:=zEo hd;obtain⟨p,hxe⟩:=dF hxs hxx;obtain⟨G',g1,g2,g3⟩:=nK σ [] 0 hR hnx (by simp[VL]) (by omega);have hr:(Builtin.append_ #[t,t] type #[.slice p 0 0,.slice (some ⟨b2,off2,none⟩) n2 cc]).run P w=.ok (.slice (some ⟨w.heap.size,0,none⟩) n2 (grownCap w n2 0 e)) (w.drew.alloc (.cells (news.toArray++Builtin.zeroCells z.cells (grownCap w n2 0 e-n2)) e)):=by cases p with|none=>exact run_append_nil (P:=P) w t type e ie z hut hie hz ⟨b2,off2,none⟩ n2 cc news hnl (λj v hj=>by rw[Addr.add_lit];exact hnc j v hj) (by omega) (by omega) (by simp only[Nat.zero_add]at c5;omega)|some q=>have:=run_append_grow (P:=P) w t type e ie z hut hie hz q 0 0 [] (by simp) (λj v hj=>by simp at hj) ⟨b2,off2,none⟩ n2 cc news hnl (λj v hj=>by rw[Addr.add_lit];exact hnc j v hj) (by omega) (by omega) (growslice_fits (by omega) c5);simpa using this
      simp only[Nat.zero_add,Array.empty_append,List.nil_append]at g1 g2 g3⊢;refine⟨_,_,G',exec a w _ _ (by rw[hxe,hye];exact hr),g1,?_,g3⟩;show yK G' ((⟨up σ.H s.nx (.row es),σ.own,σ.ns⟩:wT).stamps [] 0) _;rw[wT.stamps_zero];exact g2|row i c0=>
      subst hdd;unfold aK at hd;split at hd
      ·rename_i i' m mc zz hxe0;split at hd
       ·rename_i c1' hl;cases hd;have hwr:σ.H i=some (.row cs):=hcn.wr _ _ _ (List.mem_singleton.2 rfl);have hzz:zz=ie.size:=hz1 zz (by simp[gX.z,hxe0]);subst hzz;rw[hxe0]at hxx;simp only[V]at hxx;obtain⟨b,cap,hb,hcap,o1,hxe,⟨rfl,vs0,T0,hh0,hroom0⟩|⟨_,h00⟩⟩|⟨⟨e0,_⟩,hN,p,hxe⟩:=hxx;rotate_left;·exact absurd h00 (Nat.lt_irrefl _)
        ·have hc0:=yM.void_row (hR.Nvoid hN hwr);subst e0;subst hc0;have hinx:i≠s.nx:=λe=>by rw[e]at hwr;rw[hnx]at hwr;cases hwr
         obtain⟨G',g1,g2,g3⟩:=nK ⟨up σ.H i .dead,σ.own,σ.ns⟩ [] 0 (hR.bury hwr) (by show up σ.H i _ s.nx=none;rw[xA _ _ (λe=>hinx e.symm)];exact hnx) (by simp[VL]) (by omega);have hr:(Builtin.append_ #[t,t] type #[.slice p 0 0,.slice (some ⟨b2,off2,none⟩) n2 cc]).run P w=.ok (.slice (some ⟨w.heap.size,0,none⟩) n2 (grownCap w n2 0 e)) (w.drew.alloc (.cells (news.toArray++Builtin.zeroCells z.cells (grownCap w n2 0 e-n2)) e)):=by cases p with|none=>exact run_append_nil (P:=P) w t type e ie z hut hie hz ⟨b2,off2,none⟩ n2 cc news hnl (λj v hj=>by rw[Addr.add_lit];exact hnc j v hj) (by omega) (by omega) (by simp only[Nat.zero_add]at c5;omega)|some q=>have:=run_append_grow (P:=P) w t type e ie z hut hie hz q 0 0 [] (by simp) (λj v hj=>by simp at hj) ⟨b2,off2,none⟩ n2 cc news hnl (λj v hj=>by rw[Addr.add_lit];exact hnc j v hj) (by omega) (by omega) (growslice_fits (by omega) c5);simpa using this
         simp only[Nat.zero_add,Array.empty_append,List.nil_append]at g1 g2 g3⊢;refine⟨_,_,G',exec a w _ _ (by rw[hxe,hye];exact hr),g1,?_,g3⟩;show yK G' ((⟨up (up σ.H i .dead) s.nx (.row es),σ.own,σ.ns⟩:wT).stamps [] 0) _;rw[wT.stamps_zero];exact g2
        obtain⟨_,vs,T,hh,us,rest,hvs,hus⟩:=hR.blk i b _ hb hwr;have e0:vs=vs0/\T=T0:=by rw[hh]at hh0;cases hh0;exact⟨rfl,rfl⟩
        obtain⟨e0,e00⟩:=e0;subst e0;subst e00;have hul:=VL.length _ _ hus;have hinx:i≠s.nx:=λe=>by rw[e]at hwr;rw[hnx]at hwr;cases hwr
        have happ:∀{G':Gh}{w':World},yK G' ⟨up (up σ.H i .dead) s.nx (.row (cs++es)),σ.own,σ.ns⟩ w'->yK G' ((⟨up (up σ.H i .dead) s.nx (.row (cs++es)),σ.own,σ.ns⟩:wT).stamps [] 0) w':=λq=>by rw[wT.stamps_zero];exact q
        by_cases hroom:n+n2<=cap
        ·have hmul:(n+n2)*ie.size<=cap*ie.size:=Nat.mul_le_mul_right _ hroom;have hfit:0+n*ie.size+news.length<=vs.size:=by rw[Nat.add_mul]at hmul;omega
         have hr:=pM (P:=P) (w:=w) (ty:=type) hut hie b 0 n cap vs hh ⟨b2,off2,none⟩ n2 cc news hnl (λj u hj=>by rw[Addr.add_lit];exact hnc j u hj) (VL.all_one _ _ hnv c7) hroom hfit;have hsz:vs.size<=(vs.toList.take (0+n*ie.size)++news++vs.toList.drop (0+n*ie.size+news.length)).length:=by simp only[List.length_append,List.length_take,List.length_drop,Array.length_toList];omega
         have hpre:vs.toList.take (0+n*ie.size)=us:=by rw[hvs,Nat.zero_add,<-c1,<-hul];simp
         have hE1:=wV.setRow hR hb (vs.toList.take (0+n*ie.size)++news++vs.toList.drop (0+n*ie.size+news.length)).toArray (λo T' eo=>by rw[hh]at eo;cases eo;simpa using hsz);have hblk:vN G (w.setRow b (vs.toList.take (0+n*ie.size)++news++vs.toList.drop (0+n*ie.size+news.length)).toArray) b (.row (cs++es)):=by refine⟨_,T,setRow_heap w b vs _ T _ hh,us++news,vs.toList.drop (0+n*ie.size+news.length),by rw[hpre],VL.append _ _ _ _ (VL.mono hE1 _ _ hus) (VL.mono hE1 _ _ hnv)⟩
         have hR1:=hR.setRowX hb (by rw[hwr];simp) (vs.toList.take (0+n*ie.size)++news++vs.toList.drop (0+n*ie.size+news.length)) (λo T' eo=>by rw[hh]at eo;cases eo;simpa using hsz) (.row (cs++es)) hblk;have hnx1:up σ.H i (.row (cs++es)) s.nx=none:=by rw[xA _ _ (λe=>hinx e.symm)];exact hnx
         have hE2:wV G (w.setRow b (vs.toList.take (0+n*ie.size)++news++vs.toList.drop (0+n*ie.size+news.length)).toArray) (G.addρ s.nx b) _:=⟨λ_ _ e=>gU (((hR.dom s.nx).2.1 hnx).1) e,λ_ _ e=>e,λ_ _ e=>e,λ_ _ _=>rfl,rfl,rfl,λ_ _ e=>.inl e,λ_ _ _ _ r=>r,λ_ e=>e⟩;obtain⟨q1,q2⟩:=hR1.renew (i:=i) (j:=s.nx) (X:=.row (cs++es)) (Z:=.row (cs++es)) (yH _ _ _) (by simp) hb hnx1 (by obtain⟨vs',T',h1,h2⟩:=hblk;exact⟨vs',T',h1,h2.imp (VL.mono hE2 _)⟩);have hfun:up (up (up σ.H i (.row (cs++es))) i .dead) s.nx (.row (cs++es))=up (up σ.H i .dead) s.nx (.row (cs++es)):=by
          funext k;by_cases e1:k=s.nx;·subst e1;rw[yH,yH]
          ·rw[xA _ _ e1,xA _ _ e1];by_cases e2:k=i;·subst e2;rw[yH,yH]
           ·rw[xA _ _ e2,xA _ _ e2,xA _ _ e2]
         rw[hfun]at q2;refine⟨_,_,_,exec a w _ _ (by rw[hxe,hye];exact hr),hE1.trans q1,happ q2,?_⟩;simp only[V];refine .inl ⟨b,cap,yH _ _ _,⟨Nat.le_refl _,hroom⟩,0,rfl,.inl ⟨rfl,_,T,setRow_heap w b vs _ T _ hh,?_⟩⟩;rw[hszO,List.size_toArray];exact Nat.le_trans hroom0 hsz
        ·have hold:VL G w cs us:=hus;obtain⟨G',g1,g2,g3⟩:=nK ⟨up σ.H i .dead,σ.own,σ.ns⟩ us cap (hR.bury hwr) (by show up σ.H i _ s.nx=none;rw[xA _ _ (λe=>hinx e.symm)];exact hnx) hold (by omega);have hr:=run_append_grow (P:=P) w t type e ie z hut hie hz ⟨b,0,none⟩ n cap us (by rw[hul,c1]) (λj v hj=>by
          rw[Addr.add_lit];have h1:vs.toList[j]?=some v:=by rw[hvs];rw[List.getElem?_append_left (List.getElem?_eq_some_iff.1 hj).1];exact hj
          simp only[World.cell?,hh];simpa using h1) ⟨b2,off2,none⟩ n2 cc news hnl (λj v hj=>by rw[Addr.add_lit];exact hnc j v hj) (by omega) (by omega) (growslice_fits (by omega) c5);exact⟨_,_,G',exec a w _ _ (by rw[hxe,hye];exact hr),g1,happ g2,g3⟩
       ·cases hd
      ·cases hd
      ·cases hd
      ·cases hd
    ·cases h
   ·cases h
  ·cases h
 ·cases h
 ·cases h
def zNQ(P:Program)(t t2:TypeId)(z1:Option Nat)(cs:List AV)(n:Nat)(bs:ByteArray):Option (List AV×Nat):=match P.underlying t,P.underlying t2 with
 |some (.slice e),some .string=>match P.info? e with
  |some ie=>match ie.zero with|some z=>if cs.length=n*ie.size/\ie.size=1/\z.cells.size=ie.size/\(n+bs.size)*ie.bytes<=140737488355328/\n+bs.size<=4611686018427387904/\bs.size≠0/\(∀q,z1=some q->q=ie.size)then some (cs++uU bs,n+bs.size)else none|none=>none
  |none=>none
 |_,_=>none
set_option maxHeartbeats 4000000 in theorem zNR{P:Program}{dst:Option Tmp}{type:TypeId}{pos:String}{after:Array Edge}{guard:Option (Nat×Bool)}{t t2:TypeId}{x y:Operand}{ev:Operand->AV}{s:yW}{d:gX}{cs:List AV}{n:Nat}{bs:ByteArray}{cs':List AV}{n':Nat}(hd:aK s.H (ev x)=some (d,n,cs))(hey:ev y=.val (.string bs))(h:zNQ P t t2 (d.z (ev x)) cs n bs=some (cs',n')):xW P ⟨dst,.call {callee:=.builtin .append,args:=#[x,y],argTypes:=#[t,t2]},type,pos,after,guard⟩ {ev:=ev,wr:=d.wr,al:=[(s.nx,.row cs')],v:=.ms s.nx 0 n' n' (kW P t)}:=by
 unfold zNQ at h;split at h
 ·rename_i e hut hu2;split at h
  ·rename_i ie hie;split at h
   ·rename_i z hz;split at h
    ·rename_i hc;obtain⟨c1,c3,c4,c5,c6,hn2,hz1⟩:=hc;cases h;have vlen:(Lib.strCells bs).length=bs.size:=Lib.strCells_length bs;have hszO:kW P t=ie.size:=by simp[kW,hut,hie]
     have exec:∀(a:Act)(w:World)(u:Value)(w':World),(Builtin.append_ #[t,t2] type #[a.eval x,a.eval y]).run P w=.ok u w'->(execOp a.eval ⟨dst,.call {callee:=.builtin .append,args:=#[x,y],argTypes:=#[t,t2]},type,pos,after,guard⟩).run P w=.ok (.value u) w':=by intro a w u w' hr;simp[execOp,resolve,invoke,builtin,hr]
     have opx:∀{Z:Op},Z=.call {callee:=.builtin .append,args:=#[x,y],argTypes:=#[t,t2]}->x∈Z.operands/\y∈Z.operands:=by rintro _ rfl;simp[Op.operands,Call.operands]
     refine xW.value λG σ w a hR hx hcn=>?_;have hxx:V G w (ev x) (a.eval x):=hx x (opx rfl).1;have hyy:V G w (ev y) (a.eval y):=hx y (opx rfl).2;have hnx:σ.H s.nx=none:=hcn.al _ _ (List.mem_singleton.2 rfl);have hye:a.eval y=.string bs:=by rw[hey]at hyy;simpa only[V]using hyy
     have hnl:(Lib.strCells bs).length=bs.size*ie.size:=by rw[vlen,c3,Nat.mul_one]
     have hnv:VL G w (uU bs) (Lib.strCells bs):=zCG G w bs;have run0:∀(p:Option Addr),n=0->(Builtin.append_ #[t,t2] type #[.slice p 0 0,.string bs]).run P w=.ok (.slice (some ⟨w.heap.size,0,none⟩) bs.size (grownCap w bs.size 0 e)) (w.drew.alloc (.cells ((Lib.strCells bs).toArray++Builtin.zeroCells z.cells (grownCap w bs.size 0 e-bs.size)) e)):=by intro p hn0;subst hn0;simp only[Nat.zero_add]at c5 c6;cases p with|none=>have:=run_append_nil_string (P:=P) w t t2 type e ie z hut hu2 hie hz bs (by omega) (by omega) (by omega);rw[this];congr 4;unfold Lib.strCells;apply Array.ext';simp|some q=>have:=Lib.run_append_grow_string (P:=P) w t t2 type e ie z hut hu2 hie hz q 0 0 [] (by simp) (λj v hj=>by simp at hj) bs (by omega) (by omega) (growslice_fits (by omega) (by simpa using c5));simpa using this
     have nK:∀(σ1:wT)(olds:List Value)(old:Nat),yK G σ1 w->σ1.H s.nx=none->VL G w cs olds->old<n+bs.size->∃G',wV G w G' (w.drew.alloc (.cells (olds.toArray++(Lib.strCells bs).toArray++Builtin.zeroCells z.cells (grownCap w (n+bs.size) old e-(n+bs.size))) e))/\yK G' ⟨up σ1.H s.nx (.row (cs++uU bs)),σ1.own,σ1.ns⟩ (w.drew.alloc (.cells (olds.toArray++(Lib.strCells bs).toArray++Builtin.zeroCells z.cells (grownCap w (n+bs.size) old e-(n+bs.size))) e))/\V G' (w.drew.alloc (.cells (olds.toArray++(Lib.strCells bs).toArray++Builtin.zeroCells z.cells (grownCap w (n+bs.size) old e-(n+bs.size))) e)) (.ms s.nx 0 (n+bs.size) (n+bs.size) (kW P t)) (.slice (some ⟨w.heap.size,0,none⟩) (n+bs.size) (grownCap w (n+bs.size) old e)):=by intro σ1 olds old hR1 hn1 hv1 ho;have hge:=grownCap_ge w (n+bs.size) old e;have hE0:=wV.drew G w;have hR2:=yK.drew hR1;have hv:VL G w.drew (cs++uU bs) (olds++Lib.strCells bs):=VL.append _ _ _ _ (VL.mono hE0 _ _ hv1) (VL.mono hE0 _ _ hnv);have hE1:=wV.alloc hR2 (.cells (olds.toArray++(Lib.strCells bs).toArray++Builtin.zeroCells z.cells (grownCap w (n+bs.size) old e-(n+bs.size))) e) hn1;refine⟨_,hE0.trans hE1,hR2.alloc _ (.row (cs++uU bs)) hn1 ⟨_,e,wL _ _,olds++Lib.strCells bs,(Builtin.zeroCells z.cells (grownCap w (n+bs.size) old e-(n+bs.size))).toList,by simp,VL.mono hE1 _ _ hv⟩,?_⟩;simp only[V];refine .inl ⟨w.heap.size,_,yH _ _ _,⟨Nat.le_refl _,hge⟩,0,rfl,.inl ⟨rfl,_,e,wL _ _,?_⟩⟩;have hol:=VL.length _ _ hv1;rw[hszO];simp only[Array.size_append,List.size_toArray,size_zeroCells,c4,hol,c1,hnl,Nat.zero_add];rw[<-Nat.add_mul,<-Nat.add_mul];exact Nat.mul_le_mul_right _ (by omega)
     cases hdd:d with|nil=>subst hdd;obtain⟨rfl,rfl,hxs⟩:=zEo hd;obtain⟨p,hxe⟩:=dF hxs hxx;obtain⟨G',g1,g2,g3⟩:=nK σ [] 0 hR hnx (by simp[VL]) (by omega);have hr:=run0 p rfl;simp only[Nat.zero_add,Array.empty_append,List.nil_append]at g1 g2 g3⊢;refine⟨_,_,G',exec a w _ _ (by rw[hxe,hye];exact hr),g1,?_,g3⟩;show yK G' ((⟨up σ.H s.nx (.row (uU bs)),σ.own,σ.ns⟩:wT).stamps [] 0) _;rw[wT.stamps_zero];exact g2|row i c0=>
      subst hdd;unfold aK at hd;split at hd
      ·rename_i i' m mc zz hxe0;split at hd
       ·rename_i c1' hl;cases hd;have hwr:σ.H i=some (.row cs):=hcn.wr _ _ _ (List.mem_singleton.2 rfl);have hzz:zz=ie.size:=hz1 zz (by simp[gX.z,hxe0]);subst hzz;rw[hxe0]at hxx;simp only[V]at hxx;obtain⟨b,cap,hb,hcap,o1,hxe,⟨rfl,vs0,T0,hh0,hroom0⟩|⟨_,h00⟩⟩|⟨⟨e0,_⟩,hN,p,hxe⟩:=hxx;rotate_left;·exact absurd h00 (Nat.lt_irrefl _)
        ·have hc0:=yM.void_row (hR.Nvoid hN hwr);subst e0;subst hc0;have hinx:i≠s.nx:=λe=>by rw[e]at hwr;rw[hnx]at hwr;cases hwr
         obtain⟨G',g1,g2,g3⟩:=nK ⟨up σ.H i .dead,σ.own,σ.ns⟩ [] 0 (hR.bury hwr) (by show up σ.H i _ s.nx=none;rw[xA _ _ (λe=>hinx e.symm)];exact hnx) (by simp[VL]) (by omega);have hr:=run0 p rfl;simp only[Nat.zero_add,Array.empty_append,List.nil_append]at g1 g2 g3⊢;refine⟨_,_,G',exec a w _ _ (by rw[hxe,hye];exact hr),g1,?_,g3⟩;show yK G' ((⟨up (up σ.H i .dead) s.nx (.row (uU bs)),σ.own,σ.ns⟩:wT).stamps [] 0) _;rw[wT.stamps_zero];exact g2
        obtain⟨_,vs,T,hh,us,rest,hvs,hus⟩:=hR.blk i b _ hb hwr;have e0:vs=vs0/\T=T0:=by rw[hh]at hh0;cases hh0;exact⟨rfl,rfl⟩
        obtain⟨e0,e00⟩:=e0;subst e0;subst e00;have hul:=VL.length _ _ hus;have hinx:i≠s.nx:=λe=>by rw[e]at hwr;rw[hnx]at hwr;cases hwr
        have happ:∀{G':Gh}{w':World},yK G' ⟨up (up σ.H i .dead) s.nx (.row (cs++uU bs)),σ.own,σ.ns⟩ w'->yK G' ((⟨up (up σ.H i .dead) s.nx (.row (cs++uU bs)),σ.own,σ.ns⟩:wT).stamps [] 0) w':=λq=>by rw[wT.stamps_zero];exact q
        by_cases hroom:n+bs.size<=cap
        ·have hmul:(n+bs.size)*ie.size<=cap*ie.size:=Nat.mul_le_mul_right _ hroom;have hfit:0+n*ie.size+(Lib.strCells bs).length<=vs.size:=by rw[Nat.add_mul]at hmul;omega
         have hr:=pY (P:=P) (w:=w) (ty:=type) hut hu2 hie b 0 n cap vs hh bs c3 hroom hfit;have hsz:vs.size<=(vs.toList.take (0+n*ie.size)++Lib.strCells bs++vs.toList.drop (0+n*ie.size+(Lib.strCells bs).length)).length:=by simp only[List.length_append,List.length_take,List.length_drop,Array.length_toList];omega
         have hpre:vs.toList.take (0+n*ie.size)=us:=by rw[hvs,Nat.zero_add,<-c1,<-hul];simp
         have hE1:=wV.setRow hR hb (vs.toList.take (0+n*ie.size)++Lib.strCells bs++vs.toList.drop (0+n*ie.size+(Lib.strCells bs).length)).toArray (λo T' eo=>by rw[hh]at eo;cases eo;simpa using hsz);have hblk:vN G (w.setRow b (vs.toList.take (0+n*ie.size)++Lib.strCells bs++vs.toList.drop (0+n*ie.size+(Lib.strCells bs).length)).toArray) b (.row (cs++uU bs)):=by refine⟨_,T,setRow_heap w b vs _ T _ hh,us++Lib.strCells bs,vs.toList.drop (0+n*ie.size+(Lib.strCells bs).length),by rw[hpre],VL.append _ _ _ _ (VL.mono hE1 _ _ hus) (VL.mono hE1 _ _ hnv)⟩
         have hR1:=hR.setRowX hb (by rw[hwr];simp) (vs.toList.take (0+n*ie.size)++Lib.strCells bs++vs.toList.drop (0+n*ie.size+(Lib.strCells bs).length)) (λo T' eo=>by rw[hh]at eo;cases eo;simpa using hsz) (.row (cs++uU bs)) hblk;have hnx1:up σ.H i (.row (cs++uU bs)) s.nx=none:=by rw[xA _ _ (λe=>hinx e.symm)];exact hnx
         have hE2:wV G (w.setRow b (vs.toList.take (0+n*ie.size)++Lib.strCells bs++vs.toList.drop (0+n*ie.size+(Lib.strCells bs).length)).toArray) (G.addρ s.nx b) _:=⟨λ_ _ e=>gU (((hR.dom s.nx).2.1 hnx).1) e,λ_ _ e=>e,λ_ _ e=>e,λ_ _ _=>rfl,rfl,rfl,λ_ _ e=>.inl e,λ_ _ _ _ r=>r,λ_ e=>e⟩;obtain⟨q1,q2⟩:=hR1.renew (i:=i) (j:=s.nx) (X:=.row (cs++uU bs)) (Z:=.row (cs++uU bs)) (yH _ _ _) (by simp) hb hnx1 (by obtain⟨vs',T',h1,h2⟩:=hblk;exact⟨vs',T',h1,h2.imp (VL.mono hE2 _)⟩);have hfun:up (up (up σ.H i (.row (cs++uU bs))) i .dead) s.nx (.row (cs++uU bs))=up (up σ.H i .dead) s.nx (.row (cs++uU bs)):=by
          funext k;by_cases e1:k=s.nx;·subst e1;rw[yH,yH]
          ·rw[xA _ _ e1,xA _ _ e1];by_cases e2:k=i;·subst e2;rw[yH,yH]
           ·rw[xA _ _ e2,xA _ _ e2,xA _ _ e2]
         rw[hfun]at q2;refine⟨_,_,_,exec a w _ _ (by rw[hxe,hye];exact hr),hE1.trans q1,happ q2,?_⟩;simp only[V];refine .inl ⟨b,cap,yH _ _ _,⟨Nat.le_refl _,hroom⟩,0,rfl,.inl ⟨rfl,_,T,setRow_heap w b vs _ T _ hh,?_⟩⟩;rw[hszO,List.size_toArray];exact Nat.le_trans hroom0 hsz
        ·have hold:VL G w cs us:=hus;obtain⟨G',g1,g2,g3⟩:=nK ⟨up σ.H i .dead,σ.own,σ.ns⟩ us cap (hR.bury hwr) (by show up σ.H i _ s.nx=none;rw[xA _ _ (λe=>hinx e.symm)];exact hnx) hold (by omega);have hr:=Lib.run_append_grow_string (P:=P) w t t2 type e ie z hut hu2 hie hz ⟨b,0,none⟩ n cap us (by rw[hul,c1]) (λj v hj=>by
          rw[Addr.add_lit];have h1:vs.toList[j]?=some v:=by rw[hvs];rw[List.getElem?_append_left (List.getElem?_eq_some_iff.1 hj).1];exact hj
          simp only[World.cell?,hh];simpa using h1) bs (by omega) (by omega) (growslice_fits (by omega) c5);exact⟨_,_,G',exec a w _ _ (by rw[hxe,hye];exact hr),g1,happ g2,g3⟩
       ·cases hd
      ·cases hd
      ·cases hd
      ·cases hd
    ·cases h
   ·cases h
  ·cases h
 ·cases h
theorem zJd{H:List (Nat×yM)}{a:AV}{d:gX}{n:Nat}{cs:List AV}(h:aK H a=some (d,n,cs)):∀i X Y,(i,X,Y)∈d.wr->look H i=some X:=by
 intro i X Y hm;unfold aK at h;split at h
 ·split at h
  ·rename_i hl;cases h;simp only[gX.wr,List.mem_singleton,Prod.mk.injEq]at hm;obtain⟨rfl,rfl,rfl⟩:=hm;exact hl
  ·cases h
 ·cases h;simp[gX.wr]at hm
 ·cases h;simp[gX.wr]at hm
 ·cases h
theorem zJc{H:List (Nat×yM)}{a:AV}{sr:Option (Nat×List AV)}{es:List AV}{n z:Nat}(h:aL H a=some (sr,es,n,z)):∀i X,(i,X)∈srd sr->look H i=some X:=by
 intro i X hm;unfold aL at h;split at h
 ·split at h
  ·rename_i hl;cases h;simp only[srd,List.mem_singleton,Prod.mk.injEq]at hm;obtain⟨rfl,rfl⟩:=hm;exact hl
  ·cases h
 ·cases h;simp[srd]at hm
 ·cases h
theorem zLj{P:Program}{dst:Option Tmp}{type:TypeId}{pos:String}{after:Array Edge}{guard:Option (Nat×Bool)}{t:TypeId}{x y:Operand}{ev:Operand->AV}{H:List (Nat×yM)}{d:gX}{cs es:List AV}{n n2 z2:Nat}{sr:Option (Nat×List AV)}{e:TypeId}{ie:TypeInfo}(hut:P.underlying t=some (.slice e))(hie:P.info? e=some ie)(hd:aK H (ev x)=some (d,n,cs))(hs:aL H (ev y)=some (sr,es,n2,z2))(h0:n2=0):xW P ⟨dst,.call {callee:=.builtin .append,args:=#[x,y],argTypes:=#[t,t]},type,pos,after,guard⟩ {ev:=ev,v:=ev x}:=by
 subst h0;have opx:∀{Z:Op},Z=.call {callee:=.builtin .append,args:=#[x,y],argTypes:=#[t,t]}->x∈Z.operands/\y∈Z.operands:=by rintro _ rfl;simp[Op.operands,Call.operands]
 refine xW.pure λG w a hx=>?_;have hxx:=hx x (opx rfl).1;have hyy:=hx y (opx rfl).2;have e2:∃b2 c2,a.eval y=.slice b2 0 c2:=by
  unfold aL at hs;split at hs
  ·rename_i j off m mc zz hy;split at hs;·cases hs;rw[hy]at hyy;simp only[V]at hyy;rcases hyy with⟨b2,cap,_,_,o2,hye,_⟩|⟨_,_,p,hye⟩<;>exact⟨_,_,hye⟩
   ·cases hs
  ·rename_i hy;cases hs;rw[hy]at hyy;simp only[V]at hyy;obtain⟨cap2,_,⟨_,_,_,h2,_⟩|⟨b,off,h2,_⟩⟩:=hyy<;>exact⟨_,_,h2⟩
  ·cases hs
 have e1:∃b1 c1,n<=c1/\a.eval x=.slice b1 n c1:=by
  have hxx':=hxx;unfold aK at hd;split at hd
  ·rename_i j m mc zz hy;split at hd
   ·cases hd;rw[hy]at hxx';simp only[V]at hxx';rcases hxx' with⟨b2,cap,_,hc,o2,hye,_⟩|⟨⟨e0,_⟩,_,p,hye⟩;·exact⟨_,_,Nat.le_trans hc.1 hc.2,hye⟩
    ·subst e0;exact⟨_,_,Nat.le_refl 0,hye⟩
   ·cases hd
  ·rename_i hy;cases hd;rw[hy]at hxx';simp only[V]at hxx';obtain⟨cap2,hc,⟨_,_,h3,h2,_⟩|⟨b,off,h2,_⟩⟩:=hxx';·exact⟨_,_,Nat.le_refl _,h2⟩
   ·exact⟨_,_,hc,h2⟩
  ·rename_i hy;cases hd;rw[hy]at hxx';simp only[V]at hxx';obtain⟨cap2,hc,⟨_,_,h3,h2,_⟩|⟨b,off,h2,_⟩⟩:=hxx';·exact⟨_,_,Nat.le_refl _,h2⟩
   ·exact⟨_,_,hc,h2⟩
  ·cases hd
 obtain⟨b2,c2,e2⟩:=e2;obtain⟨b1,c1,hc,e1⟩:=e1;refine⟨a.eval x,?_,hxx⟩;have hr:=qP (P:=P) (w:=w) (ty:=type) hut hie b1 b2 n c1 c2 hc (by cases b2<;>simp);rw[<-e1,<-e2]at hr;simp[execOp,resolve,invoke,builtin,hr]
theorem zLi{P:Program}{dst:Option Tmp}{type:TypeId}{pos:String}{after:Array Edge}{guard:Option (Nat×Bool)}{t kt et:TypeId}{x:Operand}{ev:Operand->AV}{i c:Nat}{es:Array MapEntry}(hut:P.underlying t=some (.map kt et))(hx0:ev x=.obj i):xW P ⟨dst,.call {callee:=.builtin .len,args:=#[x],argTypes:=#[t]},type,pos,after,guard⟩ {ev:=ev,rd:=[(i,.obj (.map es c))],v:=.val (goInt es.size)}:=by
 refine xW.reads λG σ w a hR hx hrd=>?_;have hX:=hrd _ _ (List.mem_singleton.2 rfl);obtain⟨b,hb,_,hblk⟩:=hR.look hX;have hxx:V G w (ev x) (a.eval x):=hx x (by simp[Op.operands,Call.operands]);rw[hx0]at hxx;simp only[V]at hxx;obtain⟨b',hb',hxe⟩:=hxx;rw[hb]at hb';cases hb';have hh:w.heap[b]?=some (.map es c):=hblk.1;have hget:(getObj b).run P w=.ok (.map es c) w:=by simp[getObj,Sem.run,hh]
 refine⟨goInt es.size,?_,by simp only[V]⟩;simp[execOp,resolve,invoke,builtin,Builtin.len_,run_underlying hut,hxe,hget]
theorem yK.tell{G:Gh}{σ:wT}{w:World}(h:yK G σ w){i:Nat}{X Z:yM}(hX:σ.H i=some X)(hd:X≠.dead)(hZ:∀b,vN G w b X->vN G w b Z)(hv:X.void->Z.void):yK G ⟨up σ.H i Z,σ.own,σ.ns⟩ w:=by
 have hd':σ.H i≠some .dead:=by rw[hX];exactλe=>hd (Option.some.inj e)
 refine⟨λj=>?_,?_,h.inj_up hd' Z,λj c Y hj hY=>?_,h.live,h.τns,h.own,h.ownd,h.below,h.base⟩
 ·show jZ (G.ρ j) (G.N j) (up σ.H i Z j);by_cases e:j=i
  ·subst e;rw[yH];have hd:=h.dom j;rw[hX]at hd;exact⟨λe=>(hd.1 e).elim .inl λq=>(by cases q),λe=>(by cases e),λe=>⟨(hd.2.2 e).1,λY hY=>by cases hY;exact hv ((hd.2.2 e).2 X rfl)⟩⟩
  ·rw[xA _ _ e];exact h.dom j
 ·obtain⟨N,hN⟩:=h.fin;refine⟨max N (i+1),λj hj=>?_⟩;show up σ.H i _ j=none;rw[xA _ _ (by omega)];exact hN j (by omega)
 ·rcases nC hY with⟨rfl,rfl⟩|⟨e,hY⟩;·obtain⟨q1,q2⟩:=h.blk j c X hj hX;exact⟨q1,hZ c q2⟩
  ·exact h.blk j c Y hj hY
def zHB(P:Program)(t t2:TypeId)(z:Nat)(cs:List AV)(n c:Nat)(src:Option Nat)(es:List AV)(n2:Nat):Option (List AV):=match P.underlying t with
 |some (.slice e)=>match P.info? e with|some ie=>if t=t2/\z=ie.size/\n*ie.size<=cs.length/\es.length=n2*ie.size/\n+n2<=c/\es.all AV.one=true/\(∀q,src=some q->q=ie.size)then some (cs.take (n*ie.size)++es)else none|none=>none
 |none=>none|_=>none
theorem zNS{P:Program}{G:Gh}{σ:wT}{w:World}(hR:yK G σ w){H:List (Nat×yM)}{y:AV}{v:Value}{sr:Option (Nat×List AV)}{es:List AV}{n2 z2 sz:Nat}(hs:aL H y=some (sr,es,n2,z2))(hn2:n2≠0)(c2:es.length=n2*sz)(hz:∀q,sr=some q->z2=sz)(hrd:∀j c2,sr=some (j,c2)->σ.H j=some (.row c2))(hyy:V G w y v):∃(b2 off2 c:Nat)(news:List Value),v=.slice (some ⟨b2,off2,none⟩) n2 c/\news.length=n2*sz/\VL G w es news/\∀j u,news[j]?=some u->w.cell? ⟨b2,off2+j,none⟩=some u:=by
 unfold aL at hs;split at hs
 ·rename_i j off m mc zz;split at hs
  ·rename_i c0 hl;cases hs;have hrd':σ.H j=some (.row c0):=hrd _ _ rfl;simp only[V]at hyy;obtain⟨b2,cap,hb2,hcc,o2,hye,⟨eo,_⟩|⟨e0,_⟩⟩|⟨⟨e0,_⟩,_⟩:=hyy;rotate_left;·exact(hn2 (by omega)).elim
   ·exact(hn2 e0).elim
   have eo':=eo.symm;subst eo';obtain⟨_,vs,T,hh,hvp⟩:=hR.blk j b2 _ hb2 hrd';have hzz:z2=sz:=hz _ rfl;subst hzz;obtain⟨us,h1,h2,h3⟩:=gT.part hvp c2;refine⟨b2,off,cap,us,hye,h2,h1,λk v hk=>?_⟩;have:=h3 k v hk;simp only[World.cell?,hh];simpa using this
  ·cases hs
 ·cases hs;simp only[V]at hyy;obtain⟨cap2,_,⟨_,e0,_⟩|⟨b2,off,hye,hC,_⟩⟩:=hyy;·exact(hn2 e0).elim
  ·obtain⟨vs2,hv2,hcell2⟩:=VC.cells _ _ _ hC;refine⟨b2,off,cap2,vs2,hye,by rw[VL.length _ _ hv2,c2],hv2,λj v hj=>?_⟩;obtain⟨hj1,hj2⟩:=List.getElem?_eq_some_iff.1 hj;rw[hcell2 j hj1,hj2]
 ·cases hs
theorem zLh{G:Gh}{w:World}{H:List (Nat×yM)}{y:AV}{v:Value}{sr:Option (Nat×List AV)}{es:List AV}{z2:Nat}(hs:aL H y=some (sr,es,0,z2))(hyy:V G w y v):∃b2 c2,v=.slice b2 0 c2:=by
 unfold aL at hs;split at hs
 ·split at hs
  ·cases hs;simp only[V]at hyy;rcases hyy with⟨b2,cap,_,_,o2,hye,_⟩|⟨_,_,p,hye⟩<;>exact⟨_,_,hye⟩
  ·cases hs
 ·cases hs;simp only[V]at hyy;obtain⟨cap2,_,⟨_,_,_,h2,_⟩|⟨b,off,h2,_⟩⟩:=hyy<;>exact⟨_,_,h2⟩
 ·cases hs
set_option maxHeartbeats 2000000 in theorem zRN{P:Program}{dst:Option Tmp}{type:TypeId}{pos:String}{after:Array Edge}{guard:Option (Nat×Bool)}{t t2:TypeId}{x y:Operand}{ev:Operand->AV}{H:List (Nat×yM)}{cs es:List AV}{i n c z n2 z2:Nat}{sr:Option (Nat×List AV)}{cs':List AV}(hx0:ev x=.ms i 0 n c z)(hs:aL H (ev y)=some (sr,es,n2,z2))(h:zHB P t t2 z cs n c (sr.map λ_=>z2) es n2=some cs'):xW P ⟨dst,.call {callee:=.builtin .append,args:=#[x,y],argTypes:=#[t,t2]},type,pos,after,guard⟩ {ev:=ev,rd:=srd sr,wr:=[(i,.row cs,.row cs')],v:=.ms i 0 (n+n2) c z}:=by
 unfold zHB at h;split at h
 ·rename_i e hut;split at h
  ·rename_i ie hie;split at h
   ·rename_i hc;obtain⟨rfl,hz,c1,c2,c3,c7,hz2⟩:=hc;cases h;subst hz;have opx:∀{Z:Op},Z=.call {callee:=.builtin .append,args:=#[x,y],argTypes:=#[t,t]}->x∈Z.operands/\y∈Z.operands:=by rintro _ rfl;simp[Op.operands,Call.operands]
    have exec:∀(a:Act)(w:World)(u:Value)(w':World),(Builtin.append_ #[t,t] type #[a.eval x,a.eval y]).run P w=.ok u w'->(execOp a.eval ⟨dst,.call {callee:=.builtin .append,args:=#[x,y],argTypes:=#[t,t]},type,pos,after,guard⟩).run P w=.ok (.value u) w':=by intro a w u w' hr;simp[execOp,resolve,invoke,builtin,hr]
    refine xW.value λG σ w a hR hx hcn=>?_;have hxx:V G w (ev x) (a.eval x):=hx x (opx rfl).1;have hyy:V G w (ev y) (a.eval y):=hx y (opx rfl).2;have hwr:σ.H i=some (.row cs):=hcn.wr _ _ _ (List.mem_singleton.2 rfl);have happ:∀{G':Gh}{w':World}{Z:yM},yK G' ⟨up σ.H i Z,σ.own,σ.ns⟩ w'->yK G' ((⟨up σ.H i Z,σ.own,σ.ns⟩:wT).stamps [] 0) w':=λq=>by rw[wT.stamps_zero];exact q
    rw[hx0]at hxx;simp only[V]at hxx;by_cases hn2:n2=0
    ·subst hn2;have he0:es=[]:=List.length_eq_zero_iff.1 (by rw[c2];simp);subst he0;obtain⟨b2,cc,hye⟩:=zLh hs hyy;have hvd:(yM.row cs).void->(yM.row (cs.take (n*ie.size)++[])).void:=λh=>by rw[yM.void_row h];simp[yM.void]
     rcases hxx with⟨b,cap,hb,hcap,o1,hxe,hroom⟩|⟨⟨e0,e1⟩,hN,p,hxe⟩;rotate_left
     ·subst e0;have hr:=qP (P:=P) (w:=w) (ty:=type) hut hie p b2 0 0 cc (Nat.le_refl 0) (by cases b2<;>simp);refine⟨_,w,G,exec a w _ _ (by rw[hxe,hye];exact hr),wV.refl _ _,happ (hR.tell hwr (by simp) (λb' hbk=>?_) hvd),?_⟩
      ·obtain⟨vs,T,h1,us,rest,h2,h3⟩:=hbk;refine⟨vs,T,h1,us.take (0*ie.size),us.drop (0*ie.size)++rest,by rw[h2,<-List.append_assoc,List.take_append_drop],?_⟩;rw[List.append_nil];exact VL.take _ _ _ h3
      ·simp only[V];exact .inr ⟨⟨(by first|rfl|trivial),e1⟩,hN,p,(by first|rfl|trivial)⟩
     have hr:=qP (P:=P) (w:=w) (ty:=type) hut hie (some ⟨b,o1,none⟩) b2 n cap cc (by omega) (by cases b2<;>simp);refine⟨_,w,G,exec a w _ _ (by rw[hxe,hye];exact hr),wV.refl _ _,happ (hR.tell hwr (by simp) (λb' hbk=>?_) hvd),?_⟩
     ·obtain⟨vs,T,h1,us,rest,h2,h3⟩:=hbk;refine⟨vs,T,h1,us.take (n*ie.size),us.drop (n*ie.size)++rest,by rw[h2,<-List.append_assoc,List.take_append_drop],?_⟩;rw[List.append_nil];exact VL.take _ _ _ h3
     ·simp only[V];exact .inl ⟨b,cap,hb,⟨by omega,hcap.2⟩,o1,rfl,hroom⟩
    ·rcases hxx with⟨b,cap,hb,hcap,o1,hxe,hroom⟩|⟨⟨e0,e1⟩,_⟩;rotate_left;·exact absurd c3 (by omega)
     obtain⟨b2,off2,cc,news,hye,hnl,hnv,hnc⟩:=zNS (P:=P) hR hs hn2 c2 (λq hq=>hz2 z2 (by rw[hq];rfl)) (λj c0 hj=>hcn.rd _ _ (by rw[hj];exact List.mem_singleton.2 rfl)) hyy;rcases hroom with⟨rfl,vs,T,hh,hroom0⟩|⟨_,h00⟩;rotate_left;·exact absurd h00 (Nat.lt_irrefl _)
     obtain⟨_,vs1,T1,hh1,us,rest,hvs,hus⟩:=hR.blk i b _ hb hwr;have e0:vs=vs1/\T=T1:=by rw[hh]at hh1;cases hh1;exact⟨rfl,rfl⟩
     obtain⟨e0,e00⟩:=e0;subst e0;subst e00;have hul:=VL.length _ _ hus;have hroom:n+n2<=cap:=by omega
     have hmul:(n+n2)*ie.size<=cap*ie.size:=Nat.mul_le_mul_right _ hroom;have hfit:0+n*ie.size+news.length<=vs.size:=by rw[Nat.add_mul]at hmul;omega
     have hr:=pM (P:=P) (w:=w) (ty:=type) hut hie b 0 n cap vs hh ⟨b2,off2,none⟩ n2 cc news hnl (λj u hj=>by rw[Addr.add_lit];exact hnc j u hj) (VL.all_one _ _ hnv c7) hroom hfit;have hsz:vs.size<=(vs.toList.take (0+n*ie.size)++news++vs.toList.drop (0+n*ie.size+news.length)).length:=by simp only[List.length_append,List.length_take,List.length_drop,Array.length_toList];omega
     have hpre:vs.toList.take (0+n*ie.size)=us.take (n*ie.size):=by rw[hvs,Nat.zero_add,List.take_append_of_le_length (by omega)]
     have hE1:=wV.setRow hR hb (vs.toList.take (0+n*ie.size)++news++vs.toList.drop (0+n*ie.size+news.length)).toArray (λo T' eo=>by rw[hh]at eo;cases eo;simpa using hsz);have hblk:vN G (w.setRow b (vs.toList.take (0+n*ie.size)++news++vs.toList.drop (0+n*ie.size+news.length)).toArray) b (.row (cs.take (n*ie.size)++es)):=by refine⟨_,T,setRow_heap w b vs _ T _ hh,us.take (n*ie.size)++news,vs.toList.drop (0+n*ie.size+news.length),by rw[hpre],VL.append _ _ _ _ (VL.mono hE1 _ _ (VL.take _ _ _ hus)) (VL.mono hE1 _ _ hnv)⟩
     have hR1:=hR.setRowX hb (by rw[hwr];simp) (vs.toList.take (0+n*ie.size)++news++vs.toList.drop (0+n*ie.size+news.length)) (λo T' eo=>by rw[hh]at eo;cases eo;simpa using hsz) (.row (cs.take (n*ie.size)++es)) hblk;refine⟨_,_,G,exec a w _ _ (by rw[hxe,hye];exact hr),hE1,happ hR1,?_⟩;simp only[V];refine .inl ⟨b,cap,hb,⟨c3,hcap.2⟩,0,rfl,.inl ⟨rfl,_,T,setRow_heap w b vs _ T _ hh,?_⟩⟩;rw[List.size_toArray];exact Nat.le_trans hroom0 hsz
   ·cases h
  ·cases h
 ·cases h
 ·cases h
theorem zRO{P:Program}{dst:Option Tmp}{type:TypeId}{pos:String}{after:Array Edge}{guard:Option (Nat×Bool)}{t e:TypeId}{ie:TypeInfo}{zv:Value}{x:Operand}{ev:Operand->AV}{cs:List AV}{i off n c z:Nat}(hut:P.underlying t=some (.slice e))(hie:P.info? e=some ie)(hz:ie.zero=some zv)(hsz:zv.cells.size=z)(h1:zv.cells.toList.all Value.oneCell'=true)(hx0:ev x=.ms i off n c z)(hl:cs.length<=off):xW P ⟨dst,.call {callee:=.builtin .clear,args:=#[x],argTypes:=#[t]},type,pos,after,guard⟩ {ev:=ev,wr:=[(i,.row cs,.row cs)],v:=.tup []}:=by
 have exec:∀(a:Act)(w:World)(u:Value)(w':World),(Builtin.clear_ #[t] type #[a.eval x]).run P w=.ok u w'->(execOp a.eval ⟨dst,.call {callee:=.builtin .clear,args:=#[x],argTypes:=#[t]},type,pos,after,guard⟩).run P w=.ok (.value u) w':=by intro a w u w' hr;simp[execOp,resolve,invoke,builtin,hr]
 refine xW.value λG σ w a hR hx hcn=>?_;have hxx:V G w (ev x) (a.eval x):=hx x (by simp[Op.operands,Call.operands]);have hwr:σ.H i=some (.row cs):=hcn.wr _ _ _ (List.mem_singleton.2 rfl);have happ:∀{G':Gh}{w':World}{Z:yM},yK G' ⟨up σ.H i Z,σ.own,σ.ns⟩ w'->yK G' ((⟨up σ.H i Z,σ.own,σ.ns⟩:wT).stamps [] 0) w':=λq=>by rw[wT.stamps_zero];exact q
 rw[hx0]at hxx;simp only[V]at hxx;rcases hxx with⟨b,cap,hb,hcap,o1,hxe,hroom⟩|⟨⟨e0,_⟩,_,p,hxe⟩;rotate_left
 ·subst e0;have hr:(Builtin.clear_ #[t] type #[.slice p 0 0]).run P w=.ok (.tuple #[]) w:=by cases p<;>simp[Builtin.clear_,run_underlying hut]
  exact⟨_,w,G,exec a w _ _ (by rw[hxe];exact hr),wV.refl _ _,happ (hR.tell hwr (by simp) (λ_ h=>h) id),by simp only[V];exact⟨[],rfl,by simp only[VL]⟩⟩
 by_cases hn:n=0
 ·subst hn;have hr:(Builtin.clear_ #[t] type #[.slice (some ⟨b,o1,none⟩) 0 cap]).run P w=.ok (.tuple #[]) w:=by simp[Builtin.clear_,run_underlying hut]
  exact⟨_,w,G,exec a w _ _ (by rw[hxe];exact hr),wV.refl _ _,happ (hR.tell hwr (by simp) (λ_ h=>h) id),by simp only[V];exact⟨[],rfl,by simp only[VL]⟩⟩
 ·rcases hroom with⟨rfl,vs,T,hh,hroom0⟩|⟨h0,_⟩;rotate_left;·omega
  obtain⟨_,vs1,T1,hh1,us,rest,hvs,hus⟩:=hR.blk i b _ hb hwr;have e0:vs=vs1/\T=T1:=by rw[hh]at hh1;cases hh1;exact⟨rfl,rfl⟩
  obtain⟨e0,e00⟩:=e0;subst e0;subst e00;have hul:=VL.length _ _ hus;obtain⟨news,hnews⟩:∃news,news=(Builtin.zeroCells zv.cells n).toList:=⟨_,rfl⟩;have hnl:news.length=n*z:=by rw[hnews,Array.length_toList,size_zeroCells,hsz]
  have hmul:n*z<=cap*z:=Nat.mul_le_mul_right _ (by omega);have hone:∀v∈news,v.oneCell'=true:=by
   intro v hv;rw[hnews]at hv;obtain⟨j,hj,rfl⟩:=List.getElem_of_mem hv;rw[Array.length_toList,size_zeroCells]at hj;have hpos:0<zv.cells.size:=by
    rcases Nat.eq_zero_or_pos zv.cells.size with e|e;·rw[e,Nat.mul_zero]at hj;exact absurd hj (Nat.not_lt_zero _)
    ·exact e
   have hj2:=Nat.mod_lt j hpos;simp only[Builtin.zeroCells,Array.getElem_toList,Array.getElem_map,Array.getElem_range];rw[getElem!_pos zv.cells (j%zv.cells.size) hj2];exact List.all_eq_true.1 h1 _ (Array.mem_toList_iff.2 (Array.getElem_mem hj2))
  have hst:=run_storeCells_at P b o1 T news 0 vs w hh (by omega) hone;simp only[Nat.add_zero]at hst;have hr:(Builtin.clear_ #[t] type #[.slice (some ⟨b,o1,none⟩) n cap]).run P w=.ok (.tuple #[]) (w.setRow b (vs.toList.take o1++news++vs.toList.drop (o1+news.length)).toArray):=by cases n with|zero=>exact(hn rfl).elim|succ m=>simp[Builtin.clear_,run_underlying hut,rJ hie hz,<-hnews,hst]
  have hsz':vs.size<=(vs.toList.take o1++news++vs.toList.drop (o1+news.length)).length:=by simp only[List.length_append,List.length_take,List.length_drop,Array.length_toList];omega
  have hE1:=wV.setRow hR hb (vs.toList.take o1++news++vs.toList.drop (o1+news.length)).toArray (λo T' eo=>by rw[hh]at eo;cases eo;simpa using hsz');have hpre:vs.toList.take o1=us++rest.take (o1-us.length):=by rw[hvs,List.take_append,List.take_of_length_le (by omega)]
  have hblk:vN G (w.setRow b (vs.toList.take o1++news++vs.toList.drop (o1+news.length)).toArray) b (.row cs):=⟨_,T,setRow_heap w b vs _ T _ hh,us,rest.take (o1-us.length)++news++vs.toList.drop (o1+news.length),by rw[hpre];simp,VL.mono hE1 _ _ hus⟩;have hR1:=hR.setRowX hb (by rw[hwr];simp) (vs.toList.take o1++news++vs.toList.drop (o1+news.length)) (λo T' eo=>by rw[hh]at eo;cases eo;simpa using hsz') (.row cs) hblk;exact⟨_,_,G,exec a w _ _ (by rw[hxe];exact hr),hE1,happ hR1,by simp only[V];exact⟨[],rfl,by simp only[VL]⟩⟩
theorem zNT{P:Program}{dst:Option Tmp}{type:TypeId}{pos:String}{after:Array Edge}{guard:Option (Nat×Bool)}{t t2:TypeId}{x y:Operand}{ev:Operand->AV}{s:yW}{i m c z m2:Nat}{o:Own}{cs es:List AV}{cs':List AV}{n':Nat}(hx:ev x=.ms i 0 m c z)(hy:ev y=.sl es m2 o)(hl:look s.H i=some (.cells cs))(h:lY P t t2 (some z) cs m none es m2=some (cs',n')):xW P ⟨dst,.call {callee:=.builtin .append,args:=#[x,y],argTypes:=#[t,t2]},type,pos,after,guard⟩ {ev:=ev,wr:=[(i,.cells cs,.dead)],al:=[(s.nx,.row cs')],v:=.ms s.nx 0 n' n' (kW P t)}:=by
 have hd:aK ({s with H:=(i,.row cs)::s.H}:yW).H (ev x)=some (.row i cs,m,cs):=by rw[hx];simp[aK,look]
 have hs:aL ({s with H:=(i,.row cs)::s.H}:yW).H (ev y)=some (none,es,m2,0):=by rw[hy];rfl
 have hz:gX.z (ev x) (.row i cs)=some z:=by rw[hx];rfl
 have k:=zJe (P:=P) (dst:=dst) (type:=type) (pos:=pos) (after:=after) (guard:=guard) (t:=t) (t2:=t2) hd hs (cs':=cs') (n':=n') (by rw[hz];exact h);intro G σ w a K Q hR hv hc hK;have h1:σ.H i=some (.cells cs):=hc.wr _ _ _ (List.mem_singleton.2 rfl);have h2:σ.H s.nx=none:=hc.al _ _ (List.mem_singleton.2 rfl);have hne:s.nx≠i:=λe=>by rw[e]at h2;rw[h1]at h2;cases h2
 refine k G ⟨up σ.H i (.row cs),σ.own,σ.ns⟩ w a K Q (hR.tell h1 (by simp) (λ_ h=>h) (λh=>h.elim)) hv ⟨λj X hm=>?_,λj X Y hm=>?_,λj X hm=>?_,λk hm=>?_,λhm=>?_,λj a b=>?_,λj k v hm=>?_,λj k X Y hm=>?_⟩ λu G' w' hE hR' hu=>hK u G' w' hE ?_ hu;·exact absurd hm (by simp[srd])
 ·simp only[gX.wr,List.mem_singleton,Prod.mk.injEq]at hm;obtain⟨rfl,rfl,-⟩:=hm;exact yH _ _ _
 ·simp only[List.mem_singleton,Prod.mk.injEq]at hm;obtain⟨rfl,-⟩:=hm;show up σ.H i _ _=none;rw[xA _ _ hne];exact h2
 ·exact absurd hm (by simp)
 ·simp at hm
 ·exact absurd (Nat.lt_of_le_of_lt a b) (Nat.lt_irrefl 0|>λq=>by intro r;exact Nat.not_lt_zero _ b)
 ·exact absurd hm (by simp)
 ·exact absurd hm (by simp)
 ·rw[zEp];have e:(({ev:=ev,rd:=srd none,wr:=gX.wr (.row i cs),al:=[(s.nx,.row cs')],v:=.ms s.nx 0 n' n' (kW P t)}:LA).app ⟨up σ.H i (.row cs),σ.own,σ.ns⟩)=⟨up (up (up σ.H i (.row cs)) i .dead) s.nx (.row cs'),σ.own,σ.ns⟩:=zEp;rw[show(none:Option (Nat×List AV))=none from rfl,e]at hR';have hf:up (up (up σ.H i (.row cs)) i .dead) s.nx (.row cs')=up (up σ.H i .dead) s.nx (.row cs'):=by
   funext k;by_cases e1:k=s.nx;·subst e1;rw[yH,yH]
   ·rw[xA _ _ e1,xA _ _ e1];by_cases e2:k=i;·subst e2;rw[yH,yH]
    ·rw[xA _ _ e2,xA _ _ e2,xA _ _ e2]
  rw[hf]at hR';exact hR'
def zCH(P:Program)(t:TypeId)(ev:Operand->AV)(a:AV)(s:yW):Option LA:=match P.underlying t,a with|some .string,.val (.string bs)=>some {ev:=ev,al:=[(s.nx,.obj (.stringIter bs 0))],v:=.mp s.nx 0}|_,_=>none
def zBl(ev:Operand->AV)(a:AV)(b:Bool)(s:yW):Option LA:=match a,b with
 |.mp i 0,true=>match look s.H i with|some (.obj (.stringIter bs pos))=>bif Nat.blt pos bs.size then some {ev:=ev,wr:=[(i,.obj (.stringIter bs pos),.obj (.stringIter bs (pos+(Utf8.decode bs pos).2)))],v:=.tup [.val (.bool true),.val (goInt pos),.val (.int .i32 (Utf8.decode bs pos).1)]}else some {ev:=ev,rd:=[(i,.obj (.stringIter bs pos))],v:=.tup [.val (.bool false)]}|_=>none
 |_,_=>none
theorem zLg{P:Program}{dst:Option Tmp}{type:TypeId}{pos:String}{after:Array Edge}{guard:Option (Nat×Bool)}{t:TypeId}{x:Operand}{ev:Operand->AV}{s:yW}{la:LA}(h:zCH P t ev (ev x) s=some la):xW P ⟨dst,.range t x,type,pos,after,guard⟩ la/\la.ev=ev:=by
 unfold zCH at h;split at h
 ·rename_i bs hut hex;cases h;refine⟨xW.value λG σ w a hR hx hc=>?_,rfl⟩;have hn:σ.H s.nx=none:=hc.al _ _ (List.mem_singleton.2 rfl);have hxx:V G w (ev x) (a.eval x):=hx x (by simp[Op.operands]);rw[hex]at hxx;simp only[V]at hxx;refine⟨.pointer (some ⟨w.heap.size,0,none⟩),w.alloc (.stringIter bs 0),G.addρ s.nx w.heap.size,?_,wV.alloc hR _ hn,?_,?_⟩;·simp[execOp,Instr.range,run_underlying hut,hxx]
  ·rw[aI];exact hR.alloc_obj (.stringIter bs 0) trivial hn
  ·simp only[V];exact⟨_,yH _ _ _,rfl⟩
 ·cases h
theorem zNU{P:Program}{dst:Option Tmp}{type:TypeId}{pos:String}{after:Array Edge}{guard:Option (Nat×Bool)}{b:Bool}{x:Operand}{ev:Operand->AV}{s:yW}{la:LA}(h:zBl ev (ev x) b s=some la):xW P ⟨dst,.next x b,type,pos,after,guard⟩ la/\la.ev=ev:=by
 unfold zBl at h;split at h
 ·rename_i i hex;split at h
  ·rename_i bs p hl;cases hb:Nat.blt p bs.size with|true=>
   simp only[hb,cond_true,Option.some.injEq]at h;subst h;have hp:p<bs.size:=Nat.le_of_ble_eq_true hb;refine⟨xW.value λG σ w a hR hx hc=>?_,rfl⟩;have hX:=hc.wr _ _ _ (List.mem_singleton.2 rfl);obtain⟨c,hcb,_,hblk⟩:=hR.look hX;have hxx:V G w (ev x) (a.eval x):=hx x (by simp[Op.operands]);rw[hex]at hxx;simp only[V]at hxx;obtain⟨c',hc',hxe⟩:=hxx;rw[hcb]at hc';cases hc';have hh:w.heap[c]?=some (.stringIter bs p):=hblk.1;have hget:(getObj c).run P w=.ok (.stringIter bs p) w:=by simp[getObj,Sem.run,hh]
   have hset:∀o,(setObj c o).run P w=.ok () {w with heap:=w.heap.setIfInBounds c o}:=by intro o;simp[setObj,Sem.run,hh]
   obtain⟨g1,g2⟩:=hR.setObj hcb _ (.stringIter bs (p+(Utf8.decode bs p).2)) trivial hX;refine⟨.tuple #[.bool true,goInt p,.int .i32 (Utf8.decode bs p).1],_,G,?_,g1,by rw[aJ];exact g2,?_⟩;·simp only[execOp,Instr.next,hxe,Sem.run_bind,hget,Result.andThen_ok,hp,if_true,hset,Sem.run_pure]
   ·simp only[V];exact⟨[_,_,_],rfl,by simp only[VL,V,and_true]⟩|false=>
   simp only[hb,cond_false,Option.some.injEq]at h;subst h;have hp:¬p<bs.size:=λh=>by unfold Nat.blt at hb;rw[Nat.ble_eq_true_of_le h]at hb;cases hb
   refine⟨xW.value λG σ w a hR hx hc=>?_,rfl⟩;have hX:=hc.rd _ _ (List.mem_singleton.2 rfl);obtain⟨c,hcb,_,hblk⟩:=hR.look hX;have hxx:V G w (ev x) (a.eval x):=hx x (by simp[Op.operands]);rw[hex]at hxx;simp only[V]at hxx;obtain⟨c',hc',hxe⟩:=hxx;rw[hcb]at hc';cases hc';have hh:w.heap[c]?=some (.stringIter bs p):=hblk.1;have hget:(getObj c).run P w=.ok (.stringIter bs p) w:=by simp[getObj,Sem.run,hh]
   refine⟨.tuple #[.bool false],w,G,?_,wV.refl G w,by rw[Y7 rfl rfl rfl rfl];exact hR,?_⟩;·simp only[execOp,Instr.next,hxe,Sem.run_bind,hget,Result.andThen_ok,hp,if_false,Sem.run_pure]
   ·simp only[V];exact⟨[_],rfl,by simp only[VL,V,and_true]⟩
  ·cases h
 ·cases h
theorem zNV{a b:ByteArray}(h:(a==b)=true):a=b:=by cases a;cases b;have h':({data:=_}:ByteArray).beq {data:=_}=true:=h;unfold ByteArray.beq at h';simp at h';rw[h']
theorem zHC(a:ByteArray):(a==a)=true:=by show a.beq a=true;unfold ByteArray.beq;simp
def sS:TypeDesc->Bool|.string|.int _=>true|_=>false
def zLf:Option (Nat×Value)->Value->AV|some (_,v),_=>ofV 8 v|none,z=>ofV 8 z
def kB(P:Program)(t:TypeId)(ev:Operand->AV)(x k:AV)(ok:Bool)(s:yW):Option LA:=match P.underlying t,x,k with
 |some (.map kt et),.obj i,.val key=>match P.underlying kt,P.info? et,look s.H i with
  |some d,some ie,some (.obj (.map es clock))=>match ie.zero,Instr.findNow d key es.toList 0 with
   |some z,some r=>bif sS d then some {ev:=ev,rd:=[(i,.obj (.map es clock))],v:=if ok then .tup [zLf r z,.val (.bool r.isSome)]else zLf r z}else none|_,_=>none
  |_,_,_=>none
 |_,_,_=>none
theorem C2{P:Program}{kt:TypeId}{d:TypeDesc}(h:P.underlying kt=some d)(hd:sS d=true)(e:Bool)(n:Nat)(v:Value)(w:World):(Instr.checkKey e (n+1) kt v).run P w=.ok () w:=by simp only[Instr.checkKey,Sem.run_bind,run_underlying h,Result.andThen_ok];cases d<;>first|(cases hd;done)|rfl
theorem zHD{P:Program}{dst:Option Tmp}{type:TypeId}{pos:String}{after:Array Edge}{guard:Option (Nat×Bool)}{t:TypeId}{x y:Operand}{ok:Bool}{ev:Operand->AV}{s:yW}{la:LA}(h:kB P t ev (ev x) (ev y) ok s=some la):xW P ⟨dst,.lookup t x y ok,type,pos,after,guard⟩ la/\la.ev=ev:=by
 unfold kB at h;split at h
 ·rename_i kt et i key hut hex hey;split at h
  ·rename_i d ie es clock hd hie hl;split at h;·rename_i z r hz hf;cases hp:sS d with|false=>simp only[hp,cond_false,reduceCtorEq]at h|true=>
    simp only[hp,cond_true,Option.some.injEq]at h;subst h;refine⟨xW.reads λG σ w a hR hx hrd=>?_,rfl⟩;have hX:=hrd _ _ (List.mem_singleton.2 rfl);obtain⟨b,hb,_,hblk⟩:=hR.look hX;have hxx:V G w (ev x) (a.eval x):=hx x (by simp[Op.operands]);have hyy:V G w (ev y) (a.eval y):=hx y (by simp[Op.operands]);rw[hex]at hxx;rw[hey]at hyy;simp only[V]at hxx hyy;obtain⟨b',hb',hxe⟩:=hxx;rw[hb]at hb';cases hb';have hh:w.heap[b]?=some (.map es clock):=hblk.1;have hget:(getObj b).run P w=.ok (.map es clock) w:=by simp[getObj,Sem.run,hh]
    have hck:=C2 (P:=P) hd hp es.isEmpty 9999 key w;have hfk:(Instr.findKey kt key es.toList).run P w=.ok r w:=by simp only[Instr.findKey,Sem.run_bind,run_underlying hd,Result.andThen_ok,hf,Sem.run_pure]
    have hrun:∃q,(Instr.lookup t (a.eval x) (a.eval y) ok).run P w=.ok q w/\V G w (if ok then .tup [zLf r z,.val (.bool r.isSome)]else zLf r z) q:=by cases r with
     |none=>
      refine⟨if ok then .tuple #[z,.bool false]else z,?_,?_⟩;·simp only[Instr.lookup,Sem.run_bind,run_underlying hut,Result.andThen_ok,hxe,hyy,hget,Sem.run_pure,hck,hfk,rJ hie hz]
      ·cases ok;·exact V.ofV 8 z
       ·simp only[V,if_true];exact⟨[z,.bool false],rfl,by simp only[VL,V];exact⟨V.ofV 8 z,rfl,trivial⟩⟩|some p=>
      obtain⟨j,v⟩:=p;refine⟨if ok then .tuple #[v,.bool true]else v,?_,?_⟩;·simp only[Instr.lookup,Sem.run_bind,run_underlying hut,Result.andThen_ok,hxe,hyy,hget,Sem.run_pure,hck,hfk]
      ·cases ok;·exact V.ofV 8 v
       ·simp only[V,if_true];exact⟨[v,.bool true],rfl,by simp only[VL,V];exact⟨V.ofV 8 v,rfl,trivial⟩⟩
    obtain⟨q,hq,hv⟩:=hrun;exact⟨q,by simp[execOp,hq],hv⟩
   ·cases h
  ·cases h
 ·cases h
theorem U3{d:TypeDesc}{k k':Value}(hd:sS d=true)(h:Instr.sameNow d k k'=some true):Instr.sameBits 10000 k' k=true:=by
 unfold Instr.sameNow at h;split at h
 ·split at h
  ·rename_i hk;subst hk;simp only[Option.some.injEq,beq_iff_eq]at h;subst h;simp[Instr.sameBits]
  ·cases h
 ·simp only[Option.some.injEq]at h;have:=zNV h;subst this;simp only[Instr.sameBits,zHC]
 ·cases hd
 ·cases h
theorem C3{d:TypeDesc}{k:Value}:∀(es:List MapEntry)(i j:Nat)(v:Value),Instr.findNow d k es i=some (some (j,v))->i<=j/\∃e,es[j-i]?=some e/\Instr.sameNow d k e.key=some true
 |[],i,j,v,h=>by simp[Instr.findNow]at h|e::es,i,j,v,h=>by
  simp only[Instr.findNow]at h;split at h
  ·rename_i hs;simp only[Option.some.injEq,Prod.mk.injEq]at h;obtain⟨rfl,rfl⟩:=h;exact⟨Nat.le_refl _,e,by simp,hs⟩
  ·obtain⟨h1,e',h2,h3⟩:=C3 es (i+1) j v h;refine⟨by omega,e',?_,h3⟩;rw[show j-i=(j-(i+1))+1 by omega];simpa using h2
  ·cases h
def rL(P:Program)(t:TypeId)(ev:Operand->AV)(x k y:AV)(s:yW):Option LA:=match P.underlying t,x,k,y with
 |some (.map kt _),.obj i,.val key,.val val=>match P.underlying kt,look s.H i with
  |some d,some (.obj (.map es clock))=>match Instr.findNow d key es.toList 0 with
   |some r=>bif sS d then some {ev:=ev,v:=.val undef,wr:=[(i,.obj (.map es clock),match r with|some (j,_)=>.obj (.map (es.modify j λe=>{e with key:=key,val:=val}) clock)|none=>.obj (.map (es.push {key:=key,val:=val,born:=clock}) (clock+1)))]}else none|none=>none
  |_,_=>none
 |_,_,_,_=>none
theorem zAX{P:Program}{dst:Option Tmp}{type:TypeId}{pos:String}{after:Array Edge}{guard:Option (Nat×Bool)}{t:TypeId}{x y z:Operand}{ev:Operand->AV}{s:yW}{la:LA}(h:rL P t ev (ev x) (ev y) (ev z) s=some la):xW P ⟨dst,.mapUpdate t x y z,type,pos,after,guard⟩ la/\la.ev=ev:=by
 unfold rL at h;split at h
 ·rename_i kt et i key val hut hex hey hez;split at h
  ·rename_i d es clock hd hl;split at h;·rename_i r hf;cases hp:sS d with|false=>simp only[hp,cond_false,reduceCtorEq]at h|true=>
    simp only[hp,cond_true,Option.some.injEq]at h;subst h;refine⟨xW.skip rfl λG σ w a hR hx hc=>?_,rfl⟩;have hX:=hc.wr _ _ _ (List.mem_singleton.2 rfl);obtain⟨b,hb,_,hblk⟩:=hR.look hX;have hxx:V G w (ev x) (a.eval x):=hx x (by simp[Op.operands]);have hyy:V G w (ev y) (a.eval y):=hx y (by simp[Op.operands]);have hzz:V G w (ev z) (a.eval z):=hx z (by simp[Op.operands]);rw[hex]at hxx;rw[hey]at hyy;rw[hez]at hzz;simp only[V]at hxx hyy hzz;obtain⟨b',hb',hxe⟩:=hxx;rw[hb]at hb';cases hb';have hh:w.heap[b]?=some (.map es clock):=hblk.1;have hget:(getObj b).run P w=.ok (.map es clock) w:=by simp[getObj,Sem.run,hh]
    have hset:∀o,(setObj b o).run P w=.ok () {w with heap:=w.heap.setIfInBounds b o}:=by intro o;simp[setObj,Sem.run,hh]
    have hck:=C2 (P:=P) hd hp false 9999 key w;have hfk:(Instr.findKey kt key es.toList).run P w=.ok r w:=by simp only[Instr.findKey,Sem.run_bind,run_underlying hd,Result.andThen_ok,hf,Sem.run_pure]
    cases r with|none=>obtain⟨g1,g2⟩:=hR.setObj hb _ (.map (es.push {key:=key,val:=val,born:=clock}) (clock+1)) trivial hX;refine⟨_,G,?_,g1,by rw[aJ];exact g2⟩;simp only[execOp,Sem.run_bind,Instr.mapUpdate,run_underlying hut,Result.andThen_ok,hxe,hyy,hzz,hget,hck,hfk,hset,Sem.run_pure]|some p=>
     obtain⟨j,v⟩:=p;obtain⟨g1,g2⟩:=hR.setObj hb _ (.map (es.modify j λe=>{e with key:=key,val:=val}) clock) trivial hX;refine⟨_,G,?_,g1,by rw[aJ];exact g2⟩;obtain⟨_,e,he,hs⟩:=C3 _ _ _ _ hf;have hst:(Instr.keyThatStays (((es[j]?).map (·.key)).getD key) key).run P w=.ok key w:=by
      have:es[j]?=some e:=by simpa using he
      simp only[this,Option.map_some,Option.getD_some,Instr.keyThatStays,U3 hp hs,if_true,Sem.run_pure]
     simp only[execOp,Sem.run_bind,Instr.mapUpdate,run_underlying hut,Result.andThen_ok,hxe,hyy,hzz,hget,hck,hfk,hset,hst,Sem.run_pure]
   ·cases h
  ·cases h
 ·cases h
def R2(P:Program)(o:Op)(ev:Operand->AV)(s:yW):Option LA:=match pop P o ev with|some v=>some {ev:=ev,v:=v}|none=>match o with
 |.lookup t x k ok=>kB P t ev (ev x) (ev k) ok s|.mapUpdate t m k x=>rL P t ev (ev m) (ev k) (ev x) s|.range t x=>zCH P t ev (ev x) s|.next x b=>zBl ev (ev x) b s|.call {callee:=.builtin .append,args,argTypes}=>match args.toList,argTypes.toList with|[x,y],[t,t2]=>zEq P t t2 ev (ev x) (ev y) s|_,_=>none
 |o=>eop P o ev s
theorem gY{P:Program}{o:Oper}{ev:Operand->AV}{s:yW}{la:LA}(h:R2 P o.op ev s=some la):xW P o la/\la.ev=ev:=by
 obtain⟨dst,op,type,pos,after,guard⟩:=o;have h':R2 P op ev s=some la:=h;clear h;unfold R2 at h';split at h'
 ·rename_i v hv;cases h';exact⟨zVe hv,rfl⟩
 ·rename_i hn;clear hn;split at h';·exact zHD h'
  ·exact zAX h'
  ·exact zLg h'
  ·exact zNU h'
  ·rename_i args argTypes;split at h'
   ·rename_i x y t t2 h1 h2;have e1:args=#[x,y]:=by cases args;simp_all
    have e2:argTypes=#[t,t2]:=by cases argTypes;simp_all
    subst e1 e2;exact zNP h'
   ·cases h'
  ·exact zNO h'
structure ST where
 env:List AV
 σ:wT
def eset:List AV->Option Tmp->AV->List AV|env,none,_=>env|env,some d,v=>env.set d v
structure mP(G:Gh)(S:ST)(a:Act)(w:World):Prop where
 st:yK G S.σ w
 env:VL G w S.env a.tmps.toList
 dfr:a.defers=[]
theorem VL.eset{G:Gh}{w:World}{env:List AV}{a:Act}(h:VL G w env a.tmps.toList)(d:Option Tmp){v:AV}{u:Value}(hv:V G w v u):VL G w (eset env d v) (a.put d u).tmps.toList:=by cases d with|none=>exact h|some d=>simp only[Ab.eset,Act.put,Array.toList_setIfInBounds];exact VL.set _ _ h d v u hv
theorem zCI(a:Act)(d:Option Tmp)(u:Value):(a.put d u).defers=a.defers:=by cases d<;>rfl
def bT(ops:Array Oper)(env:List AV)(o:Oper):Option Bool:=match o.guard with|none=>some true|some (j,want)=>match(ops[j]?).bind (·.dst)with|none=>some false|some t=>match eget env t with|.val (.bool b)=>some (b==want)|.val _=>some false|_=>none
theorem zEn{G:Gh}{w:World}{ops:Array Oper}{env:List AV}{o:Oper}{a:Act}{b:Bool}(h:VL G w env a.tmps.toList)(hw:bT ops env o=some b):Region.wanted o (yielded ops a.tmps)=b:=by
 unfold bT at hw;unfold Region.wanted;split at hw;·rename_i hg;rw[hg];simpa using hw
 ·rename_i j want hg;rw[hg];simp only;split at hw
  ·rename_i hd;simp only[Option.some.injEq]at hw;subst hw;simp[yielded,hd]
  ·rename_i t hd;have hv:=V.eget env _ h t;have hget:a.tmps.toList.getD t undef=a.tmps.getD t undef:=by simp
   rw[hget]at hv;split at hw
   ·rename_i b' he;rw[he]at hv;simp only[V]at hv;simp only[Option.some.injEq]at hw;subst hw;simp only[yielded,hd,Option.bind_some];have:a.tmps[t]?=some (.bool b'):=by rw[Array.getD_eq_getD_getElem?]at hv;cases hx:a.tmps[t]? with|none=>rw[hx]at hv;cases hv|some z=>rw[hx]at hv;simp only[Option.getD_some]at hv;rw[hv]
    rw[this];cases b'<;>cases want<;>rfl
   ·rename_i v hnb he;rw[he]at hv;simp only[V]at hv;simp only[Option.some.injEq]at hw;subst hw;simp only[yielded,hd,Option.bind_some];cases hx:a.tmps[t]? with|none=>rfl|some z=>rw[Array.getD_eq_getD_getElem?,hx]at hv;simp only[Option.getD_some]at hv;subst hv;cases z<;>first|rfl|exact(hnb _ rfl).elim
   ·cases hw
def pZ(P:Program)(ops:Array Oper)(i:Nat)(l:Option LA)(S S':ST):Prop:=∃o,ops[i]?=some o/\match l with|none=>bT ops S.env o=some false/\S'=⟨eset S.env o.dst (.val undef),S.σ⟩|some la=>bT ops S.env o=some true/\xW P o la/\(∀x∈o.op.operands,la.ev x=aev S.env x)/\la.can S.σ/\S'=⟨eset S.env o.dst la.v,la.app S.σ⟩
theorem pZ.wp{P:Program}{ops:Array Oper}{i:Nat}{l:Option LA}{S S':ST}(h:pZ P ops i l S S'){G:Gh}{a:Act}{w:World}(hR:mP G S a w){K:Act->World->Prop}{Q:Exit->Act->World->Prop}(hK:∀G' a' w',wV G w G' w'->mP G' S' a' w'->K a' w'):wpOp P ops Q i K a w:=by obtain⟨o,ho,h⟩:=h;unfold wpOp;simp only[ho];cases l with|none=>obtain⟨h1,rfl⟩:=h;rw[zEn hR.env h1];simp only[Bool.false_eq_true,if_false];exact hK G _ w (wV.refl G w) ⟨hR.st,VL.eset hR.env _ (by simp[V]),by rw[zCI];exact hR.dfr⟩|some la=>obtain⟨h1,h2,h3,h4,rfl⟩:=h;rw[zEn hR.env h1];simp only[if_true];refine .inl (h2 G S.σ w a K Q hR.st (λx hx=>by rw[h3 x hx];exact V.aev hR.env x) h4 λu G' w' hE hR' hv=>?_);exact hK G' _ w' hE ⟨hR',VL.eset (VL.mono hE _ _ hR.env) _ hv,by rw[zCI];exact hR.dfr⟩
def kN(P:Program)(ops:Array Oper):List (Nat×Option LA)->ST->ST->Prop|[],S,S'=>S=S'|p::l,S,S'=>∃S₁,pZ P ops p.1 p.2 S S₁/\kN P ops l S₁ S'
theorem kN.wpOps{P:Program}{ops:Array Oper}{Q:Exit->Act->World->Prop}:∀(l:List (Nat×Option LA))(S S':ST),kN P ops l S S'->∀(G:Gh)(a:Act)(w:World),mP G S a w->(∀G' a' w',wV G w G' w'->mP G' S' a' w'->Q .normal a' w')->wpOps P ops Q (l.map (·.1)) a w|[],S,S',h,G,a,w,hR,hQ=>by simp only[kN]at h;subst h;exact hQ G a w (wV.refl G w) hR|p::l,S,S',h,G,a,w,hR,hQ=>by obtain⟨S₁,h1,h2⟩:=h;rw[List.map_cons,wpOps_cons];refine h1.wp hR λG' a' w' hE hR'=>?_;exact kN.wpOps l S₁ S' h2 G' a' w' hR' λG2 a2 w2 hE2 hR2=>hQ G2 a2 w2 (hE.trans hE2) hR2
theorem zLe{P:Program}{ops:Array Oper}{id:Nat}{Q:Exit->Act->World->Prop}{l:List (Nat×Option LA)}{S S':ST}(h:kN P ops l S S')(hl:l.map (·.1)=List.range ops.size){G:Gh}{a:Act}{w:World}(hR:mP G S a w)(hQ:∀G' a' w',wV G w G' w'->mP G' S' a' w'->Q .normal a' w'):(Code.region id ops false).wp P Q a w:=by refine wp_region ?_;rw[<-hl];exact kN.wpOps l S S' h G a w hR hQ
def zRP(l m:List Nat):Bool:=l.all λi=>!(m.any (Nat.beq i))
theorem mQ{l m:List Nat}(h:zRP l m=true){i:Nat}(h1:i∈l)(h2:i∈m):False:=by unfold zRP at h;have:=List.all_eq_true.1 h i h1;simp only[Bool.not_eq_true',List.any_eq_false]at this;exact this i h2 (by simp)
def LA.rs(la:LA):List Nat:=la.rd.map (·.1)
def LA.ws(la:LA):List Nat:=la.wr.map (·.1)
def LA.as(la:LA):List Nat:=la.al.map (·.1)
def LA.stm(la:LA):Bool:=(!la.use.isEmpty||!Nat.beq la.new 0)||la.st
def LA.clear(a b:LA):Bool:=(b.ws++b.as).all λi=>Nat.blt i a.lo||Nat.ble a.hi i
theorem LA.clear_spec{a b:LA}(h:a.clear b=true){i:Nat}(h1:a.lo<=i)(h2:i<a.hi):i∉b.ws/\i∉b.as:=by
 have key:i∉b.ws++b.as:=λhi=>by have:=List.all_eq_true.1 h i hi;simp only[Bool.or_eq_true,Nat.blt_eq,Nat.ble_eq]at this;omega
 simp only[List.mem_append,not_or]at key;exact key
def zVc(a b:LA):Bool:=a.rc.all λq=>!(b.as.any (Nat.beq q.1))&&(!(b.ws.any (Nat.beq q.1))||b.kp.any λp=>Nat.beq p.1 q.1&&Nat.beq p.2 q.2.1)
theorem zBk{a b:LA}(h:zVc a b=true){i k:Nat}{v:AV}(hm:(i,k,v)∈a.rc):i∉b.as/\(i∈b.ws->(i,k)∈b.kp):=by
 have:=List.all_eq_true.1 h _ hm;simp only[Bool.and_eq_true,Bool.or_eq_true,Bool.not_eq_true',List.any_eq_false,List.any_eq_true]at this;obtain⟨h1,h2⟩:=this;refine⟨λe=>h1 i e (by simp),λe=>?_⟩;rcases h2 with h2|⟨⟨p1,p2⟩,hp,e1,e2⟩;·exact absurd (by simp) (h2 i e)
 ·have e1:=Nat.eq_of_beq_eq_true e1;have e2:=Nat.eq_of_beq_eq_true e2;simp only at e1 e2;subst e1 e2;exact hp
def iB(a b:Option LA):Bool:=match a,b with|some a,some b=>zRP (a.rs++a.ws++a.as) (b.ws++b.as)&&zRP (a.ws++a.as) (b.rs++b.ws++b.as)&&!(a.stm&&b.stm)&&(a.clear b&&b.clear a)&&(zVc a b&&zVc b a)|_,_=>true
theorem dG{H:Nat->Option yM}:∀(l:List (Nat×yM)){i:Nat},i∉l.map (·.1)->gR H l i=H i|[],_,_=>rfl|p::l,i,h=>by simp only[List.map_cons,List.mem_cons,not_or]at h;simp only[gR];rw[xA _ _ h.1];exact dG l h.2
theorem zCJ{H H':Nat->Option yM}:∀(l:List (Nat×yM)){i:Nat},i∈l.map (·.1)->gR H l i=gR H' l i
 |[],_,h=>by simp at h|p::l,i,h=>by
  simp only[gR];by_cases e:i=p.1;·subst e;rw[yH,yH]
  ·rw[xA _ _ e,xA _ _ e];simp only[List.map_cons,List.mem_cons]at h;exact zCJ l (h.resolve_left e)
theorem tY{la:LA}{σ:wT}{i:Nat}(h1:i∉la.ws)(h2:i∉la.as):(la.app σ).H i=σ.H i:=by show gR (gR σ.H (la.wr.map λp=>(p.1,p.2.2))) la.al i=σ.H i;rw[dG _ h2,dG];simpa[LA.ws]using h1
theorem zJb{H:Nat->Option yM}:∀(l:List (Nat×yM)){i:Nat},i∈l.map (·.1)->∃Y,(i,Y)∈l/\gR H l i=some Y
 |[],_,h=>by simp at h|p::l,i,h=>by
  simp only[gR];by_cases e:i=p.1;·subst e;exact⟨p.2,by simp,yH _ _ _⟩
  ·rw[xA _ _ e];simp only[List.map_cons,List.mem_cons]at h;obtain⟨Y,h1,h2⟩:=zJb l (h.resolve_left e);exact⟨Y,List.mem_cons_of_mem _ h1,h2⟩
theorem zBj{la:LA}{σ:wT}{i:Nat}(h1:i∉la.as)(h2:i∈la.ws):∃X Y,(i,X,Y)∈la.wr/\(la.app σ).H i=some Y:=by obtain⟨Y,h3,h4⟩:=zJb (H:=σ.H) (la.wr.map λp=>(p.1,p.2.2)) (i:=i) (by simpa[LA.ws]using h2);obtain⟨⟨j,X,Z⟩,hm,e⟩:=List.mem_map.1 h3;simp only[Prod.mk.injEq]at e;obtain⟨rfl,rfl⟩:=e;refine⟨X,Z,hm,?_⟩;show gR (gR σ.H (la.wr.map λp=>(p.1,p.2.2))) la.al j=some Z;rw[dG _ h1,h4]
theorem zBi{la:LA}{σ σ':wT}{i:Nat}(h:i∈la.ws\/i∈la.as):(la.app σ).H i=(la.app σ').H i:=by
 show gR (gR σ.H (la.wr.map λp=>(p.1,p.2.2))) la.al i=gR (gR σ'.H (la.wr.map λp=>(p.1,p.2.2))) la.al i;by_cases h2:i∈la.as;·exact zCJ _ h2
 ·rw[dG _ h2,dG _ h2];exact zCJ _ (by simpa[LA.ws]using h.resolve_right h2)
theorem iC{la:LA}(h:la.stm=false):la.use=[]/\la.new=0/\la.st=false:=by simp only[LA.stm,Bool.or_eq_false_iff,Bool.not_eq_false',List.isEmpty_iff]at h;exact⟨h.1.1,Nat.eq_of_beq_eq_true h.1.2,h.2⟩
theorem K0{la:LA}(h:la.stm=false):la.use=[]/\la.new=0:=⟨(iC h).1,(iC h).2.1⟩
theorem uO{la:LA}{σ:wT}(h:la.stm=false):(la.app σ).own=σ.own/\(la.app σ).ns=σ.ns:=by obtain⟨h1,h2⟩:=K0 h;unfold LA.app;rw[h1,h2,wT.stamps_zero];exact⟨rfl,rfl⟩
theorem bU{la:LA}{σ σ':wT}(h1:σ.own=σ'.own)(h2:σ.ns=σ'.ns):(la.app σ).own=(la.app σ').own/\(la.app σ).ns=(la.app σ').ns:=by unfold LA.app wT.stamps;simp only[h1,h2,and_self]
theorem zVb{a b:LA}{σ:wT}(hm:iB (some a) (some b)=true)(ha:a.can σ)(hb:b.can (a.app σ)):b.can σ:=by
 simp only[iB,Bool.and_eq_true,Bool.not_eq_true',Bool.and_eq_false_iff]at hm;obtain⟨⟨⟨⟨h1,h2⟩,h3⟩,h4⟩,h5⟩:=hm;have hH:∀i,i∈b.rs++b.ws++b.as->(a.app σ).H i=σ.H i:=λi hi=>tY (λe=>mQ h2 (List.mem_append_left _ e) hi) (λe=>mQ h2 (List.mem_append_right _ e) hi);refine⟨λi X hX=>?_,λi X Y hX=>?_,λi X hX=>?_,λk hk=>?_,λhs=>?_,λi q1 q2=>?_,λi k v hX=>?_,hb.kp⟩;·rw[<-hH i (by simp only[LA.rs,List.mem_append,List.mem_map];exact .inl (.inl ⟨_,hX,rfl⟩))];exact hb.rd i X hX
 ·rw[<-hH i (by simp only[LA.ws,List.mem_append,List.mem_map];exact .inl (.inr ⟨_,hX,rfl⟩))];exact hb.wr i X Y hX
 ·rw[<-hH i (by simp only[LA.as,List.mem_append,List.mem_map];exact .inr ⟨_,hX,rfl⟩)];exact hb.al i X hX
 ·have:=hb.use k hk;rcases h3 with h3|h3;·rw[(uO h3).1]at this;exact this
  ·rw[(K0 h3).1]at hk;cases hk
 ·have:=hb.ns hs;rcases h3 with h3|h3;·rw[(uO h3).2]at this;exact this
  ·obtain⟨e1,e2,e3⟩:=iC h3;rcases hs with hs|hs|hs;·exact absurd e1 hs
   ·exact absurd e2 hs
   ·rw[e3]at hs;cases hs
 ·obtain⟨n1,n2⟩:=LA.clear_spec h4.2 q1 q2;have:=hb.hole i q1 q2;rwa[tY n1 n2]at this
 ·obtain⟨X',e1,e2⟩:=hb.rc i k v hX;obtain⟨n1,n2⟩:=zBk h5.2 hX;by_cases hw:i∈a.ws
  ·obtain⟨X,Y,hm',hY⟩:=zBj (σ:=σ) n1 hw;rw[hY]at e1;cases e1;exact⟨X,ha.wr i X _ hm',(ha.kp i k X _ (n2 hw) hm').trans e2⟩
  ·rw[tY hw n1]at e1;exact⟨X',e1,e2⟩
theorem zVa{a b:LA}{σ:wT}(hm:iB (some a) (some b)=true)(hb:b.can σ)(ha:a.can σ):a.can (b.app σ):=by
 simp only[iB,Bool.and_eq_true,Bool.not_eq_true',Bool.and_eq_false_iff]at hm;obtain⟨⟨⟨⟨h1,h2⟩,h3⟩,h4⟩,h5⟩:=hm;have hH:∀i,i∈a.rs++a.ws++a.as->(b.app σ).H i=σ.H i:=λi hi=>tY (λe=>mQ h1 hi (List.mem_append_left _ e)) (λe=>mQ h1 hi (List.mem_append_right _ e));refine⟨λi X hX=>?_,λi X Y hX=>?_,λi X hX=>?_,λk hk=>?_,λhs=>?_,λi q1 q2=>?_,λi k v hX=>?_,ha.kp⟩;·rw[hH i (by simp only[LA.rs,List.mem_append,List.mem_map];exact .inl (.inl ⟨_,hX,rfl⟩))];exact ha.rd i X hX
 ·rw[hH i (by simp only[LA.ws,List.mem_append,List.mem_map];exact .inl (.inr ⟨_,hX,rfl⟩))];exact ha.wr i X Y hX
 ·rw[hH i (by simp only[LA.as,List.mem_append,List.mem_map];exact .inr ⟨_,hX,rfl⟩)];exact ha.al i X hX
 ·rcases h3 with h3|h3;·rw[(K0 h3).1]at hk;cases hk
  ·rw[(uO h3).1];exact ha.use k hk
 ·rcases h3 with h3|h3
  ·obtain⟨e1,e2,e3⟩:=iC h3;rcases hs with hs|hs|hs;·exact absurd e1 hs
   ·exact absurd e2 hs
   ·rw[e3]at hs;cases hs
  ·rw[(uO h3).2];exact ha.ns hs
 ·obtain⟨n1,n2⟩:=LA.clear_spec h4.1 q1 q2;rw[tY n1 n2];exact ha.hole i q1 q2
 ·obtain⟨X',e1,e2⟩:=ha.rc i k v hX;obtain⟨n1,n2⟩:=zBk h5.1 hX;by_cases hw:i∈b.ws
  ·obtain⟨X,Y,hm',hY⟩:=zBj (σ:=σ) n1 hw;have:=hb.wr i X Y hm';rw[e1]at this;cases this;exact⟨Y,hY,(hb.kp i k _ Y (n2 hw) hm').symm.trans e2⟩
  ·exact⟨X',by rw[tY hw n1];exact e1,e2⟩
theorem zNW{a b:LA}{σ:wT}(hm:iB (some a) (some b)=true):a.app (b.app σ)=b.app (a.app σ):=by
 simp only[iB,Bool.and_eq_true,Bool.not_eq_true',Bool.and_eq_false_iff]at hm;obtain⟨⟨⟨⟨h1,h2⟩,h3⟩,h4⟩,h5⟩:=hm;have hH:(a.app (b.app σ)).H=(b.app (a.app σ)).H:=by
  funext i;by_cases ha:i∈a.ws\/i∈a.as
  ·have hb1:i∉b.ws:=λe=>mQ h2 (List.mem_append.2 ha) (by simp[e]);have hb2:i∉b.as:=λe=>mQ h2 (List.mem_append.2 ha) (by simp[e]);rw[tY hb1 hb2];exact zBi ha
  ·have ha':=not_or.1 ha;rw[tY ha'.1 ha'.2];by_cases hb:i∈b.ws\/i∈b.as;·exact zBi hb
   ·have hb':=not_or.1 hb;rw[tY hb'.1 hb'.2,tY hb'.1 hb'.2,tY ha'.1 ha'.2]
 have hO:(a.app (b.app σ)).own=(b.app (a.app σ)).own/\(a.app (b.app σ)).ns=(b.app (a.app σ)).ns:=by
  rcases h3 with h3|h3
  ·obtain⟨e1,e2⟩:=uO (σ:=b.app σ) h3;obtain⟨e3,e4⟩:=uO (σ:=σ) h3;obtain⟨e5,e6⟩:=bU (la:=b) e3 e4;exact⟨e1.trans e5.symm,e2.trans e6.symm⟩
  ·obtain⟨e1,e2⟩:=uO (σ:=a.app σ) h3;obtain⟨e3,e4⟩:=uO (σ:=σ) h3;obtain⟨e5,e6⟩:=bU (la:=a) e3 e4;exact⟨e5.trans e1.symm,e6.trans e2.symm⟩
 calc a.app (b.app σ)=⟨(a.app (b.app σ)).H,(a.app (b.app σ)).own,(a.app (b.app σ)).ns⟩:=rfl
  _=⟨(b.app (a.app σ)).H,(b.app (a.app σ)).own,(b.app (a.app σ)).ns⟩:=by rw[hH,hO.1,hO.2]
  _=b.app (a.app σ):=rfl
theorem gZ:∀(env:List AV)(d t:Nat)(v:AV),t≠d->eget (env.set d v) t=eget env t|[],_,_,_,_=>rfl|a::r,0,0,_,h=>absurd rfl h|a::r,0,t+1,_,_=>rfl|a::r,d+1,0,_,_=>rfl|a::r,d+1,t+1,v,h=>by simp only[List.set_cons_succ,eget];exact gZ r d t v (λe=>h (by omega))
theorem zNX{env:List AV}{dst:Option Tmp}{v:AV}{x:Operand}(h:∀d,dst=some d->x≠.tmp d):aev (eset env dst v) x=aev env x:=by cases dst with|none=>rfl|some d=>cases x with|tmp t=>have:t≠d:=λe=>h d rfl (by rw[e]);simp only[aev,eset,gZ _ _ _ _ this]|_=>rfl
theorem Y8{ops:Array Oper}{o:Oper}{env:List AV}{dst:Option Tmp}{v:AV}(h:∀d,dst=some d->d∉o.looksAt ops):bT ops (eset env dst v) o=bT ops env o:=by cases dst with|none=>rfl|some d=>unfold bT;cases hg:o.guard with|none=>rfl|some g=>obtain⟨j,want⟩:=g;simp only;cases ht:(ops[j]?).bind (·.dst)with|none=>rfl|some t=>have hne:t≠d:=λe=>h d rfl (by subst e;simp[Oper.looksAt,hg,ht]);simp only[eset,gZ _ _ _ _ hne]
theorem zBh{ops:Array Oper}{o:Oper}{env:List AV}{dst:Option Tmp}{v:AV}(h:∀d,dst=some d->d∉o.looksAt ops)(x:Operand)(hx:x∈o.op.operands):aev (eset env dst v) x=aev env x:=zNX λd hd hxd=>h d hd (by subst hxd;exact List.mem_append_left _ (List.mem_filterMap.2 ⟨.tmp d,by simpa using hx,rfl⟩))
theorem zLd{env:List AV}{d e:Option Tmp}{u v:AV}(h:∀x,d=some x->e≠some x):eset (eset env d u) e v=eset (eset env e v) d u:=by cases d with|none=>cases e<;>rfl|some x=>cases e with|none=>rfl|some y=>have hne:x≠y:=λq=>h x rfl (by rw[q]);simp only[eset];exact List.set_comm _ _ hne
def zNY(l:Option LA):AV:=match l with|none=>.val undef|some la=>la.v
def zCK(l:Option LA)(σ:wT):wT:=match l with|none=>σ|some la=>la.app σ
theorem zLc{a b:Option LA}{σ:wT}(hm:iB a b=true):zCK a (zCK b σ)=zCK b (zCK a σ):=by cases a with|none=>rfl|some a=>cases b with|none=>rfl|some b=>exact zNW hm
theorem pZ.out{P:Program}{ops:Array Oper}{i:Nat}{l:Option LA}{S S':ST}{o:Oper}(h:pZ P ops i l S S')(ho:ops[i]?=some o):S'=⟨eset S.env o.dst (zNY l),zCK l S.σ⟩:=by obtain⟨o',ho',h⟩:=h;rw[ho]at ho';cases ho';cases l with|none=>exact h.2|some la=>exact h.2.2.2.2
theorem pZ.move{P:Program}{ops:Array Oper}{i:Nat}{l:Option LA}{S S' T:ST}{o:Oper}(h:pZ P ops i l S S')(ho:ops[i]?=some o)(h1:bT ops T.env o=bT ops S.env o)(h2:∀x∈o.op.operands,aev T.env x=aev S.env x)(h3:∀la,l=some la->la.can S.σ->la.can T.σ):pZ P ops i l T ⟨eset T.env o.dst (zNY l),zCK l T.σ⟩:=by obtain⟨o',ho',h⟩:=h;rw[ho]at ho';cases ho';refine⟨o,ho,?_⟩;cases l with|none=>exact⟨h1.trans h.1,rfl⟩|some la=>obtain⟨q1,q2,q3,q4,_⟩:=h;exact⟨h1.trans q1,q2,λx hx=>(q3 x hx).trans (h2 x hx).symm,h3 la rfl q4,rfl⟩
theorem pZ.can{P:Program}{ops:Array Oper}{i:Nat}{la:LA}{S S':ST}(h:pZ P ops i (some la) S S'):la.can S.σ:=by obtain⟨_,_,h⟩:=h;exact h.2.2.2.1
theorem pZ.swap{P:Program}{ops:Array Oper}{i j:Nat}{a b:Option LA}{S S₁ S₂:ST}{x y:Oper}(hx:ops[i]?=some x)(hy:ops[j]?=some y)(hap:x.apart ops y=true)(hm:iB a b=true)(h1:pZ P ops i a S S₁)(h2:pZ P ops j b S₁ S₂):∃T,pZ P ops j b S T/\pZ P ops i a T S₂:=by
 obtain⟨c1,c2,c3⟩:=Oper.apart_spec hap;have e1:=h1.out hx;have e2:=h2.out hy;have g2:=h2.move (T:=S) hy (by rw[e1];exact(Y8 c1).symm) (λz hz=>by rw[e1];exact(zBh c1 z hz).symm) (λlb hb hc=>by subst hb;rw[e1]at hc;cases a with|none=>exact hc|some la=>exact zVb hm h1.can hc);have g1:=h1.move (T:=⟨eset S.env y.dst (zNY b),zCK b S.σ⟩) hx (Y8 c3) (λz hz=>zBh c3 z hz) (λla ha hc=>by subst ha;cases b with|none=>exact hc|some lb=>exact zVa hm g2.can hc);refine⟨_,g2,?_⟩;have:S₂=⟨eset (eset S.env y.dst (zNY b)) x.dst (zNY a),zCK a (zCK b S.σ)⟩:=by
  rw[e2,e1];congr 1;·exact zLd c2
  ·exact(zLc hm).symm
 rw[this];exact g1
def anc(m:List Nat)(o:Oper):Nat:=o.after.toList.foldl (λs e=>bif Region.binds .any e then Nat.lor (Nat.lor s (Nat.shiftLeft 1 e.on)) (m.getD e.on 0)else s) 0
def zCL:List Oper->List Nat->List Nat|[],m=>m|o::l,m=>zCL l (m++[anc m o])
def fA(ops:Array Oper)(x y:Nat×Option LA):Bool:=match ops[x.1]?,ops[y.1]? with|some o,some p=>o.apart ops p&&iB x.2 y.2|_,_=>false
def R3(ops:Array Oper)(m:List Nat):List (Nat×Option LA)->Bool|[]=>true|x::l=>(l.all λy=>Nat.testBit (m.getD y.1 0) x.1||fA ops x y)&&R3 ops m l
def zHE(ops:Array Oper)(listed:Array Bool):Prop:=∀i o,listed.getD i false=true->ops[i]?=some o->∀e∈o.after,Region.binds .any e=true->listed.getD e.on false=true
theorem zEm{listed:Array Bool}{m:List Nat}(hm:∀i j,listed.getD i false=true->Nat.testBit (m.getD i 0) j=true->listed.getD j false=true):∀(l:List Edge)(s:Nat),(∀j,Nat.testBit s j=true->listed.getD j false=true)->(∀e∈l,Region.binds .any e=true->listed.getD e.on false=true)->∀j,Nat.testBit (l.foldl (λs e=>bif Region.binds .any e then Nat.lor (Nat.lor s (Nat.shiftLeft 1 e.on)) (m.getD e.on 0)else s) s) j=true->listed.getD j false=true|[],s,hs,_,j,h=>hs j h|e::l,s,hs,hl,j,h=>by simp only[List.foldl_cons]at h;refine zEm hm l _ ?_ (λe he=>hl e (by simp[he])) j h;intro k hk;cases hb:Region.binds .any e with|false=>simp only[hb,cond_false]at hk;exact hs k hk|true=>
 simp only[hb,cond_true]at hk;have he:=hl e (by simp) hb;have hk':Nat.testBit (s|||(1<<<e.on)|||m.getD e.on 0) k=true:=hk;rw[Nat.testBit_or,Nat.testBit_or]at hk';simp only[Bool.or_eq_true]at hk';rcases hk' with(hk'|hk')|hk';·exact hs k hk'
 ·rw[Nat.one_shiftLeft,Nat.testBit_two_pow]at hk';simp only[decide_eq_true_eq]at hk';rw[<-hk'];exact he
 ·exact hm e.on k he hk'
theorem zBg{ops:Array Oper}{listed:Array Bool}(hc:zHE ops listed):∀(l:List Oper)(m:List Nat),(∀k,l[k]?=ops[m.length+k]?)->(∀i j,listed.getD i false=true->Nat.testBit (m.getD i 0) j=true->listed.getD j false=true)->∀i j,listed.getD i false=true->Nat.testBit ((zCL l m).getD i 0) j=true->listed.getD j false=true
 |[],m,_,hm,i,j,hi,h=>hm i j hi h|o::l,m,hl,hm,i,j,hi,h=>by
  refine zBg hc l (m++[anc m o]) (λk=>?_) ?_ i j hi h
  ·have:=hl (k+1);simp only[List.getElem?_cons_succ,List.length_append,List.length_cons,List.length_nil]at this⊢;rw[this];congr 1;omega
  ·intro i j hi h;by_cases hlt:i<m.length
   ·rw[List.getD_eq_getElem?_getD,List.getElem?_append_left hlt,<-List.getD_eq_getElem?_getD]at h;exact hm i j hi h
   ·by_cases heq:i=m.length
    ·subst heq;have h0:ops[m.length]?=some o:=by have:=hl 0;simpa using this.symm
     have hg:(m++[anc m o]).getD m.length 0=anc m o:=by simp[List.getD]
     rw[hg]at h;exact zEm hm o.after.toList 0 (λj hj=>by simp at hj) (λe he hb=>hc m.length o hi h0 e (by simpa using he) hb) j h
    ·have hg:(m++[anc m o]).getD i 0=0:=by rw[List.getD_eq_getElem?_getD,List.getElem?_eq_none (by simp;omega)];rfl
     rw[hg]at h;simp at h
def fB(ops:Array Oper):Bool:=ops.toList.zipIdx.all λp=>p.1.after.toList.all λe=>!Region.binds .any e||Nat.blt e.on p.2
theorem zEl{ops:Array Oper}(h:fB ops=true){i:Nat}{o:Oper}(ho:ops[i]?=some o){e:Edge}(he:e∈o.after)(hb:Region.binds .any e=true):e.on<i:=by unfold fB at h;have:=List.all_eq_true.1 h (o,i) (by rw[List.mk_mem_zipIdx_iff_getElem?];simpa using ho);have:=List.all_eq_true.1 this e (by simpa using he);simp only[hb,Bool.not_true,Bool.false_or,Nat.blt_eq]at this;exact this
def zRQ(ops:Array Oper)(m:List Nat)(x y:Nat×Option LA):Prop:=(Nat.testBit (m.getD y.1 0) x.1||fA ops x y)=true
theorem Y9{ops:Array Oper}{m:List Nat}:∀(l:List (Nat×Option LA)),R3 ops m l=true->l.Pairwise (zRQ ops m)|[],_=>.nil|x::l,h=>by simp only[R3,Bool.and_eq_true,List.all_eq_true]at h;exact .cons (λy hy=>h.1 y hy) (Y9 l h.2)
theorem kN.front{P:Program}{ops:Array Oper}{p:Nat×Option LA}:∀(l₁ l₂:List (Nat×Option LA))(S S':ST),(∀x∈l₁,fA ops x p=true)->kN P ops (l₁++p::l₂) S S'->∃S₁,pZ P ops p.1 p.2 S S₁/\kN P ops (l₁++l₂) S₁ S'|[],l₂,S,S',_,h=>h|x::l₁,l₂,S,S',ha,h=>by obtain⟨S₁,h1,h2⟩:=h;obtain⟨S₂,h3,h4⟩:=kN.front l₁ l₂ S₁ S' (λy hy=>ha y (by simp[hy])) h2;have hx:=ha x (by simp);unfold fA at hx;cases hi:ops[x.1]? with|none=>simp[hi]at hx|some o=>cases hj:ops[p.1]? with|none=>simp[hi,hj]at hx|some q=>simp only[hi,hj,Bool.and_eq_true]at hx;obtain⟨T,t1,t2⟩:=pZ.swap hi hj hx.1 hx.2 h1 h3;exact⟨T,t1,S₂,t2,h4⟩
theorem zCM{P:Program}{ops:Array Oper}{Q:Exit->Act->World->Prop}{S':ST}(hed:fB ops=true):∀(fuel:Nat)(l:List (Nat×Option LA))(listed:Array Bool)(S:ST)(G:Gh)(a:Act)(w:World),l.length<=fuel->listed.size=ops.size->(∀i,i<ops.size->(listed.getD i true=false↔i∈l.map (·.1)))->(l.map (·.1)).Nodup->(∀x∈l,x.1<ops.size)->zHE ops listed->l.Pairwise (zRQ ops (zCL ops.toList []))->kN P ops l S S'->mP G S a w->(∀G' a' w',wV G w G' w'->mP G' S' a' w'->Q .normal a' w')->wpAny P .any ops Q fuel listed a w:=by
 intro fuel;have getD_eq:∀(listed:Array Bool)i,i<listed.size->listed.getD i true=listed.getD i false:=by intro listed i hi;simp[hi]
 have ready_mem:∀(listed:Array Bool)i,i∈Region.ready .any ops listed->i<ops.size/\listed.getD i true=false/\∀o,ops[i]?=some o->∀e∈o.after,Region.binds .any e=true->listed.getD e.on false=true:=by intro listed i hi;unfold Region.ready at hi;simp only[List.mem_filter,List.mem_range,Bool.and_eq_true,Bool.not_eq_true']at hi;obtain⟨h1,h2,h3⟩:=hi;refine⟨h1,h2,λo ho e he hb=>?_⟩;rw[ho]at h3;simp only[Option.map_some,Option.getD_some]at h3;have:=Array.all_eq_true_iff_forall_mem.1 h3 e he;simpa[hb]using this
 have empty:∀(l:List (Nat×Option LA))(listed:Array Bool),listed.size=ops.size->(∀i,i<ops.size->(listed.getD i true=false↔i∈l.map (·.1)))->(∀x∈l,x.1<ops.size)->Region.ready .any ops listed=[]->l=[]:=by intro l listed hsz hiff hlt hr;cases l with|nil=>rfl|cons x l=>
   exfalso;have:∀n,(∃i,i∈(x::l).map (·.1)/\i<=n)->∃i,i∈(x::l).map (·.1)/\∀j,j∈(x::l).map (·.1)->i<=j:=by intro n;induction n with|zero=>rintro⟨i,hi,h0⟩;exact⟨i,hi,λj _=>by omega⟩|succ n ih=>
     rintro⟨i,hi,h0⟩;by_cases hex:∃i,i∈(x::l).map (·.1)/\i<=n;·exact ih hex
     ·refine⟨i,hi,λj hj=>?_⟩;have:¬j<=n:=λh=>hex ⟨j,hj,h⟩;omega
   obtain⟨i,hi,hmin⟩:=this x.1 ⟨x.1,by simp,Nat.le_refl _⟩;have hilt:i<ops.size:=by obtain⟨y,hy,rfl⟩:=List.mem_map.1 hi;exact hlt y hy
   have hmem:i∈Region.ready .any ops listed:=by unfold Region.ready;simp only[List.mem_filter,List.mem_range,Bool.and_eq_true,Bool.not_eq_true'];refine⟨hilt,(hiff i hilt).2 hi,?_⟩;rw[Array.getElem?_eq_getElem hilt];simp only[Option.map_some,Option.getD_some];rw[Array.all_eq_true_iff_forall_mem];intro e he;cases hb:Region.binds .any e with|false=>rfl|true=>
     have hon:=zEl hed (Array.getElem?_eq_getElem hilt) he hb;have:¬listed.getD e.on true=false:=λh=>by have:=hmin e.on ((hiff e.on (by omega)).1 h);omega
     simp only[Bool.not_true,Bool.false_or];rw[<-getD_eq listed e.on (by omega)];simpa using this
   rw[hr]at hmem;cases hmem
 induction fuel with
 |zero=>intro l listed S G a w hlen hsz hiff hnd hlt hcl hpw hrun hR hQ;have hl:l=[]:=List.eq_nil_of_length_eq_zero (by omega);subst hl;simp only[kN]at hrun;subst hrun;refine⟨?_,hQ G a w (wV.refl G w) hR⟩;cases hr:Region.ready .any ops listed with|nil=>rfl|cons i r=>
   have hi:i∈Region.ready .any ops listed:=by rw[hr];simp
   obtain⟨h1,h2,_⟩:=ready_mem listed i hi;have:=(hiff i h1).1 h2;simp at this|succ fuel ih=>
  intro l listed S G a w hlen hsz hiff hnd hlt hcl hpw hrun hR hQ;refine⟨λhr=>?_,λi hi=>?_⟩
  ·have hl:=empty l listed hsz hiff hlt hr;subst hl;simp only[kN]at hrun;subst hrun;exact hQ G a w (wV.refl G w) hR
  ·obtain⟨h1,h2,h3⟩:=ready_mem listed i hi;obtain⟨p,hp,rfl⟩:=List.mem_map.1 ((hiff i h1).1 h2);obtain⟨l₁,l₂,rfl⟩:=List.append_of_mem hp;have hcl':zHE ops (listed.setIfInBounds p.1 true):=by
    intro j o hj ho e he hb;have hge:∀k,listed.getD k false=true->(listed.setIfInBounds p.1 true).getD k false=true:=by
     intro k hk;by_cases hkp:k=p.1;·subst hkp;simp[hsz,h1]
     ·simpa[Array.getElem?_setIfInBounds_ne (λq=>hkp q.symm)]using hk
    by_cases hjp:j=p.1;·subst hjp;exact hge _ (h3 o ho e he hb)
    ·exact hge _ (hcl j o (by simpa[Array.getElem?_setIfInBounds_ne (λq=>hjp q.symm)]using hj) ho e he hb)
   have hnd':=hnd;simp only[List.map_append,List.map_cons]at hnd';have happ:∀x∈l₁,fA ops x p=true:=by
    intro x hx;have hfree:zRQ ops (zCL ops.toList []) x p:=(List.pairwise_append.1 hpw).2.2 x hx p (by simp);unfold zRQ at hfree;rw[Bool.or_eq_true]at hfree;rcases hfree with hbit|hap
    ·exfalso;have hself:(listed.setIfInBounds p.1 true).getD p.1 false=true:=by simp[hsz,h1]
     have:=zBg hcl' ops.toList [] (λk=>by simp) (λi j _ hj=>by simp at hj) p.1 x.1 hself hbit;have hne:x.1≠p.1:=by rw[List.nodup_append]at hnd';exactλe=>hnd'.2.2 x.1 (List.mem_map.2 ⟨x,hx,rfl⟩) p.1 (by simp) e
     have hx1:listed.getD x.1 false=true:=by simpa[Array.getElem?_setIfInBounds_ne (λq=>hne q.symm)]using this
     have hxl:listed.getD x.1 true=false:=(hiff x.1 (hlt x (by simp[hx]))).2 (List.mem_map.2 ⟨x,by simp[hx],rfl⟩);rw[getD_eq listed x.1 (by have:=hlt x (by simp[hx]);omega)]at hxl;rw[hx1]at hxl;cases hxl
    ·exact hap
   obtain⟨S₁,t1,t2⟩:=kN.front l₁ l₂ S S' happ hrun;refine t1.wp hR λG' a' w' hE hR'=>?_;have hsub:(l₁++l₂).Sublist (l₁++p::l₂):=List.Sublist.append (List.Sublist.refl _) (List.sublist_cons_self _ _);refine ih (l₁++l₂) _ S₁ G' a' w' (by simp at hlen⊢;omega) (by simpa using hsz) (λj hj=>?_) ((hsub.map _).nodup hnd) (λx hx=>hlt x (hsub.subset hx)) hcl' (hpw.sublist hsub) t2 hR' (λG2 a2 w2 hE2 hR2=>hQ G2 a2 w2 (hE.trans hE2) hR2);by_cases hjp:j=p.1
   ·subst hjp;rw[List.nodup_append]at hnd';obtain⟨_,n2,n3⟩:=hnd';rw[List.nodup_cons]at n2;simp only[List.map_append,List.mem_append];constructor;·intro h;simp[hsz,h1]at h
    ·rintro(h|h);·exact absurd rfl (n3 p.1 h p.1 (by simp))
     ·exact absurd h n2.1
   ·have:(listed.setIfInBounds p.1 true).getD j true=listed.getD j true:=by simp[Array.getElem?_setIfInBounds_ne (λq=>hjp q.symm)]
    rw[this,hiff j hj];simp only[List.map_append,List.map_cons,List.mem_append,List.mem_cons];constructor
    ·rintro(h|rfl|h);·exact .inl h
     ·exact absurd rfl hjp
     ·exact .inr h
    ·rintro(h|h);·exact .inl h
     ·exact .inr (.inr h)
theorem Z0{P:Program}{ops:Array Oper}{id:Nat}{Q:Exit->Act->World->Prop}{l:List (Nat×Option LA)}{S S':ST}(hm:P.follows .mixedOrders=true)(hed:fB ops=true)(hfree:R3 ops (zCL ops.toList []) l=true)(h:kN P ops l S S')(hl:l.map (·.1)=List.range ops.size){G:Gh}{a:Act}{w:World}(hR:mP G S a w)(hQ:∀G' a' w',wV G w G' w'->mP G' S' a' w'->Q .normal a' w'):(Code.region id ops true).wp P Q a w:=by
 have hR':mP G S a w.drew:=⟨yK.drew hR.st,VL.mono (wV.drew G w) _ _ hR.env,hR.dfr⟩;refine wp_region_any hm ?_;refine zCM hed ops.size l (Array.replicate ops.size false) S G a w.drew (by rw[<-List.length_map (f:=(·.1)),hl];simp) (by simp) (λi hi=>?_) (by rw[hl];exact List.nodup_range) (λx hx=>?_) (λi o hi _ _ _ _=>?_) (Y9 l hfree) h hR' (λG2 a2 w2 hE2 hR2=>hQ G2 a2 w2 ((wV.drew G w).trans hE2) hR2);·rw[hl];simp[hi]
 ·have:x.1∈l.map (·.1):=List.mem_map.2 ⟨x,hx,rfl⟩;rw[hl]at this;simpa using this
 ·by_cases hlt:i<ops.size;·simp[hlt]at hi
  ·simp[hlt]at hi
inductive AX where|normal|exit(id:Nat)|ret
def AX.toExit:AX->Exit|.normal=>.normal|.exit i=>.exit i|.ret=>.ret
def zYD(G:Gh)(w:World)(Q:AX->ST->Prop):Exit->Act->World->Prop:=λe a' w'=>∃x S' G',e=AX.toExit x/\Q x S'/\wV G w G' w'/\mP G' S' a' w'
def Cw(P:Program)(c:Code)(S:ST)(Q:AX->ST->Prop):Prop:=∀(G:Gh)(a:Act)(w:World),mP G S a w->c.wp P (zYD G w Q) a w
theorem Cw.skip{P:Program}{S:ST}{Q:AX->ST->Prop}(h:Q .normal S):Cw P .skip S Q:=λG _ w hR=>wp_skip ⟨.normal,S,G,rfl,h,wV.refl G w,hR⟩
theorem Cw.label{P:Program}{l:Nat}{S:ST}{Q:AX->ST->Prop}(h:Q .normal S):Cw P (.label l) S Q:=λG _ w hR=>wp_label ⟨.normal,S,G,rfl,h,wV.refl G w,hR⟩
theorem Cw.exit{P:Program}{i:Nat}{S:ST}{Q:AX->ST->Prop}(h:Q (.exit i) S):Cw P (.exit i) S Q:=λG _ w hR=>wp_exit ⟨.exit i,S,G,rfl,h,wV.refl G w,hR⟩
theorem Cw.ret{P:Program}{S:ST}{Q:AX->ST->Prop}(h:Q .ret S):Cw P .ret S Q:=λG _ w hR=>wp_ret ⟨.ret,S,G,rfl,h,wV.refl G w,hR⟩
theorem Cw.region{P:Program}{ops:Array Oper}{id:Nat}{l:List (Nat×Option LA)}{S S':ST}{Q:AX->ST->Prop}(h:kN P ops l S S')(hl:l.map (·.1)=List.range ops.size)(hQ:Q .normal S'):Cw P (.region id ops false) S Q:=λ_ _ _ hR=>zLe h hl hR λG' _ _ hE hR'=>⟨.normal,S',G',rfl,hQ,hE,hR'⟩
theorem Cw.draw{P:Program}{ops:Array Oper}{id:Nat}{l:List (Nat×Option LA)}{S S':ST}{Q:AX->ST->Prop}(hm:P.follows .mixedOrders=true)(hed:fB ops=true)(hfree:R3 ops (zCL ops.toList []) l=true)(h:kN P ops l S S')(hl:l.map (·.1)=List.range ops.size)(hQ:Q .normal S'):Cw P (.region id ops true) S Q:=λ_ _ _ hR=>Z0 hm hed hfree h hl hR λG' _ _ hE hR'=>⟨.normal,S',G',rfl,hQ,hE,hR'⟩
def zLb(P:Program)(f:FuncId)(args:List AV)(la:LA):Prop:=∀(G:Gh)(σ:wT)(w:World)(cargs:Array Value),yK G σ w->VL G w args cargs.toList->la.can σ->Calls P f cargs w λe w'=>∃u G',e=.returned u/\wV G w G' w'/\yK G' (la.app σ) w'/\V G' w' la.v u
theorem xW.call{P:Program}{dst:Option Tmp}{type:TypeId}{pos:String}{after:Array Edge}{guard:Option (Nat×Bool)}{g:Operand}{args:Array Operand}{argTypes:Array TypeId}{la:LA}{f:FuncId}{first caps:List AV}{fn:Func}(hg:la.ev g=.clo f first caps)(hf:P.funcs[f]?=some fn)(hname:(fn.name=="runtime.NumGoroutine")=false)(hb:fn.body.isNone=false)(h:zLb P f (first++args.toList.map la.ev++caps) la):xW P ⟨dst,.call {callee:=.value g,args:=args,argTypes:=argTypes},type,pos,after,guard⟩ la:=by
 intro G σ w a K Q hR hx hc hK;have hgx:=hx g (by simp[Op.operands,Call.operands]);rw[hg]at hgx;simp only[V]at hgx;obtain⟨l,r,hge,hl,hr⟩:=hgx;have hargs:VL G w (args.toList.map la.ev) (args.toList.map a.eval):=VL.mapv _ λp hp=>hx p (by simp[Op.operands,Call.operands];exact .inr (by simpa using hp));have hrun:(execOp a.eval ⟨dst,.call {callee:=.value g,args:=args,argTypes:=argTypes},type,pos,after,guard⟩).run P w=.ok (.enter f (l.toArray++args.map a.eval++r.toArray)) w:=by
  simp only[execOp,resolve,hge,Deferred.ofValue,Sem.run_bind,Sem.run_pure,Result.andThen_ok,invoke,callFunc];have hname':¬fn.name="runtime.NumGoroutine":=by simpa using hname
  have hb':¬fn.body=none:=by intro e;rw[e]at hb;cases hb
  simp[program,Sem.run,hf,hname',hb']
 unfold Oper.wp;rw[hrun,Oper.upon_enter];refine(h G σ w (l.toArray++args.map a.eval++r.toArray) hR ?_ hc).mono λe w' he=>?_;·have:=VL.append _ _ _ _ (VL.append _ _ _ _ hl hargs) hr;simpa using this
 ·obtain⟨u,G',rfl,h1,h2,h3⟩:=he;exact hK u G' w' h1 h2 h3
def Z1(P:Program)(H:Nat->Option yM)(env:List AV):ResultVar->Option AV|.tmp t=>some (eget env t)|.cell a t=>match tsz P t,eget env a with
 |some q,.mp i off=>match H i with|some (.cells cs)=>qU q (cs.drop off)|_=>none
 |_,_=>none
def bV(P:Program)(H:Nat->Option yM)(env:List AV):List ResultVar->Option (List AV)|[]=>some []|r::l=>match Z1 P H env r,bV P H env l with|some v,some vs=>some (v::vs)|_,_=>none
def Z2(P:Program)(H:Nat->Option yM)(env:List AV)(rs:List ResultVar):Option AV:=match bV P H env rs with|some [v]=>some v|some vs=>some (.tup vs)|none=>none
theorem zNZ{P:Program}{S:ST}{G:Gh}{a:Act}{w:World}(hR:mP G S a w){r:ResultVar}{v:AV}(h:Z1 P S.σ.H S.env r=some v):∃u,(match r with|.tmp t=>(pure (a.tmps.getD t undef):Sem Value)|.cell b t=>do loadVar t (<-asAddr (a.tmps.getD b undef))).run P w=.ok u w/\V G w v u:=by
 have hget:∀t,V G w (eget S.env t) (a.tmps.getD t undef):=by intro t;have:=V.eget S.env _ hR.env t;simpa using this
 cases r with|tmp t=>simp only[Z1,Option.some.injEq]at h;subst h;exact⟨_,rfl,hget t⟩|cell b t=>
  simp only[Z1]at h;split at h
  ·rename_i q i off hq he;split at h
   ·rename_i cs hcs;have hb:=hget b;rw[he]at hb;simp only[V]at hb;obtain⟨c,hc,hbe⟩:=hb;obtain⟨c',hc',_,hblk⟩:=hR.st.look hcs;rw[hc]at hc';cases hc';obtain⟨vs,T,hh,hl⟩:=hblk;obtain⟨u,hu,hv⟩:=J9 hq hh hl h;refine⟨u,?_,hv⟩;simp only[Instr.loadAt,Instr.sureAddr,Sem.run_bind,Sem.run_pure,Result.andThen_ok]at hu;simp only[hbe,asAddr,Sem.run_bind,Sem.run_pure,Result.andThen_ok,hu]
   ·cases h
  ·cases h
theorem zEk{P:Program}{S:ST}{G:Gh}{a:Act}{w:World}(hR:mP G S a w):∀(rs:List ResultVar)(vs:List AV),bV P S.σ.H S.env rs=some vs->∃us,(rs.mapM λ(r:ResultVar)=>match r with|.tmp t=>(pure (a.tmps.getD t undef):Sem Value)|.cell b t=>do loadVar t (<-asAddr (a.tmps.getD b undef))).run P w=.ok us w/\VL G w vs us
 |[],vs,h=>by simp only[bV,Option.some.injEq]at h;subst h;exact⟨[],by simp,by simp[VL]⟩|r::rs,vs,h=>by
  simp only[bV]at h;split at h
  ·rename_i v vs' h1 h2;cases h;obtain⟨u,hu,hv⟩:=zNZ hR h1;obtain⟨us,hus,hvs⟩:=zEk hR rs vs' h2;refine⟨u::us,?_,by simp only[VL];exact⟨hv,hvs⟩⟩;simp only[List.mapM_cons,Sem.run_bind,hu,Result.andThen_ok,hus,Sem.run_pure]
  ·cases h
theorem zRR{P:Program}{S:ST}{G:Gh}{a:Act}{w:World}(hR:mP G S a w){fn:Func}{v:AV}(h:Z2 P S.σ.H S.env fn.results.toList=some v):∃u,(results fn a.tmps).run P w=.ok u w/\V G w v u:=by
 unfold Z2 at h;have key:∀vs,bV P S.σ.H S.env fn.results.toList=some vs->∃us:List Value,(results fn a.tmps).run P w=.ok (if h:us.toArray.size=1 then us.toArray[0]else .tuple us.toArray) w/\VL G w vs us:=by intro vs hvs;obtain⟨us,hus,hv⟩:=zEk hR _ _ hvs;refine⟨us,?_,hv⟩;unfold results;rw[Array.mapM_eq_mapM_toList];simp only[Sem.run_bind,Sem.run_map,Sem.run_pure];erw[hus];rfl
 split at h
 ·rename_i v' hvs;cases h;obtain⟨us,h1,h2⟩:=key _ hvs;have hl:=VL.length _ _ h2;match us,hl,h1,h2 with|[u],_,h1,h2=>simp only[VL]at h2;exact⟨u,by simpa using h1,h2.1⟩
 ·rename_i vs hne hvs;cases h;obtain⟨us,h1,h2⟩:=key _ hvs;have hl:=VL.length _ _ h2;have hne':¬us.toArray.size=1:=by intro e;simp only[List.size_toArray]at e;rw[hl]at e;match vs,e with|[v'],_=>exact hne v' rfl
  rw[dif_neg hne']at h1;exact⟨_,h1,by simp only[V];exact⟨us,rfl,h2⟩⟩
 ·cases h
theorem VL.replicate{G:Gh}{w:World}:∀n,VL G w (List.replicate n (.val undef)) (List.replicate n undef)|0=>by simp[VL]|n+1=>by simp only[List.replicate_succ,VL];exact⟨by simp[V],VL.replicate n⟩
def put:List (Nat×yM)->Nat->yM->List (Nat×yM)|[],_,_=>[]|p::l,i,Y=>bif Nat.beq i p.1 then(p.1,Y)::l else p::put l i Y
def iD(H:List (Nat×yM)):List (Nat×yM×yM)->List (Nat×yM)|[]=>H|p::l=>put (iD H l) p.1 p.2.2
theorem oH{i j:Nat}(h:i≠j):Nat.beq i j=false:=by cases hb:Nat.beq i j with|false=>rfl|true=>exact absurd (Nat.eq_of_beq_eq_true hb) h
theorem C4:∀(H:List (Nat×yM))(i j:Nat)(Y:yM),look (put H i Y) j=if j=i/\(look H i).isSome=true then some Y else look H j|[],i,j,Y=>by simp[put,look]|p::H,i,j,Y=>by simp only[put];cases hi:Nat.beq i p.1 with
 |true=>
  have:=Nat.eq_of_beq_eq_true hi;subst this;simp only[cond_true,look,hi];by_cases hj:j=p.1;·subst hj;simp
  ·have:Nat.beq j p.1=false:=oH hj;simp[this,hj]|false=>
  have hne:i≠p.1:=by rintro rfl;simp at hi
  simp only[cond_false,look,hi];rw[C4 H i j Y];by_cases hj:j=p.1
  ·subst hj;have hb:Nat.beq p.1 p.1=true:=by simp
   simp only[hb,cond_true];rw[if_neg (λe=>hne e.1.symm)]
  ·have hb:Nat.beq j p.1=false:=oH hj;simp only[hb,cond_false]
def yX(σ₀:wT)(s:yW):wT:=⟨λi=>match look s.H i with|some X=>some X|none=>σ₀.H i,λk=>s.own.any (Nat.beq k)||σ₀.own k,s.ns⟩
def nK(ns:Nat):Nat->List Nat|0=>[]|n+1=>(ns+n)::nK ns n
theorem dH{ns k:Nat}:∀n,k∈nK ns n↔ns<=k/\k<ns+n|0=>by simp[nK]|n+1=>by simp only[nK,List.mem_cons,dH n];omega
def yW.app(s:yW)(la:LA):yW:=⟨la.al++iD s.H la.wr,max (max s.nx la.hi) (la.al.foldl (λm p=>max m (p.1+1)) 0),nK s.ns la.new++s.own.filter (λk=>!(la.use.any (Nat.beq k))),s.ns+la.new,la.wr.map (·.1)++s.dirty⟩
structure yW.fit(s:yW)(la:LA):Prop where
 rd:∀i X,(i,X)∈la.rd->look s.H i=some X
 wr:∀i X Y,(i,X,Y)∈la.wr->look s.H i=some X
 al:∀i X,(i,X)∈la.al->s.nx<=i
 lo:la.lo<la.hi->s.nx<=la.lo
 use:∀k,k∈la.use->k∈s.own
 ns:la.use≠[]\/la.new≠0\/la.st=true->la.ns=s.ns
 rc:∀i k v,(i,k,v)∈la.rc->∃X,look s.H i=some X/\pL X k=some v
 kp:∀i k X Y,(i,k)∈la.kp->(i,X,Y)∈la.wr->pL X k=pL Y k
structure yW.On(s:yW)(σ₀:wT)(b:Nat):Prop where
 H:∀i X,look s.H i=some X->i<s.nx
 own:∀k,k∈s.own->b<=k/\k<s.ns
 fr:∀k,σ₀.own k=true->k<b
 b:b<=s.ns
theorem vV{l:List Nat}{k:Nat}:l.any (Nat.beq k)=true↔k∈l:=by
 rw[List.any_eq_true];constructor;·rintro⟨x,hx,h⟩;have:=Nat.eq_of_beq_eq_true h;subst this;exact hx
 ·intro h;exact⟨k,h,by simp⟩
theorem C5:∀(l:List (Nat×yM))(m i:Nat)(X:yM),m<=l.foldl (λm p=>max m (p.1+1)) m/\((i,X)∈l->i<l.foldl (λm p=>max m (p.1+1)) m)
 |[],m,i,X=>by simp|p::l,m,i,X=>by
  simp only[List.foldl_cons,List.mem_cons];obtain⟨h1,h2⟩:=C5 l (max m (p.1+1)) i X;refine⟨by omega,?_⟩;rintro(rfl|h)
  ·have h1':max m (i+1)<=List.foldl (λm p=>max m (p.fst+1)) (max m (i+1)) l:=h1;show i<List.foldl (λm p=>max m (p.fst+1)) (max m (i+1)) l;omega
  ·exact h2 h
theorem yW.app_nx(s:yW)(la:LA):s.nx<=(s.app la).nx/\la.hi<=(s.app la).nx/\∀i X,(i,X)∈la.al->i<(s.app la).nx:=by simp only[yW.app];refine⟨by omega,by omega,λi X h=>?_⟩;have:=(C5 la.al 0 i X).2 h;omega
theorem yW.can{s:yW}{la:LA}(h:s.fit la){σ₀:wT}{b:Nat}(ho:s.On σ₀ b)(hfree:∀i,s.nx<=i->i<(s.app la).nx->σ₀.H i=none):la.can (yX σ₀ s):=by
 have hn:∀i,s.nx<=i->i<(s.app la).nx->(yX σ₀ s).H i=none:=by intro i h1 h2;show(match look s.H i with|some X=>some X|none=>σ₀.H i)=none;cases hl:look s.H i with|some X=>have:=ho.H i X hl;omega|none=>exact hfree i h1 h2
 obtain⟨n1,n2,n3⟩:=s.app_nx la;refine⟨λi X hX=>?_,λi X Y hX=>?_,λi X hX=>hn i (h.al i X hX) (n3 i X hX),λk hk=>?_,h.ns,λi h1 h2=>hn i (Nat.le_trans (h.lo (by omega)) h1) (by omega),λi k v hX=>?_,h.kp⟩;·show(match look s.H i with|some X=>some X|none=>σ₀.H i)=some X;rw[h.rd i X hX]
 ·show(match look s.H i with|some X=>some X|none=>σ₀.H i)=some X;rw[h.wr i X Y hX]
 ·show(s.own.any (Nat.beq k)||σ₀.own k)=true;rw[vV.2 (h.use k hk)];rfl
 ·obtain⟨X,h1,h2⟩:=h.rc i k v hX;refine⟨X,?_,h2⟩;show(match look s.H i with|some X=>some X|none=>σ₀.H i)=some X;rw[h1]
theorem kX{H:List (Nat×yM)}:∀(l:List (Nat×yM×yM))(i:Nat),(∀p∈l,(look H p.1).isSome=true)->(∀i,(look H i).isSome=(look (iD H l) i).isSome)/\(match look (iD H l) i with|some X=>some X|none=>none)=(if(look H i).isSome=true then gR (look H) (l.map λp=>(p.1,p.2.2)) i else none)
 |[],i,_=>by refine⟨λ_=>rfl,?_⟩;simp only[iD,List.map_nil,gR];cases look H i<;>rfl|p::l,i,h=>by
  have ih:=λi=>kX l i (λq hq=>h q (by simp[hq]));have hp:=h p (by simp);have hs:∀j,(look H j).isSome=(look (iD H (p::l)) j).isSome:=by
   intro j;simp only[iD,C4];have hj:=(ih j).1 j;by_cases e:j=p.1/\(look (iD H l) p.1).isSome=true;·rw[if_pos e,e.1,hp];rfl
   ·rw[if_neg e];exact hj
  refine⟨hs,?_⟩;simp only[iD,C4,List.map_cons,gR];have hpl:(look (iD H l) p.1).isSome=true:=by rw[<-(ih p.1).1 p.1];exact hp
  by_cases e:i=p.1
  ·subst e;rw[if_pos ⟨rfl,hpl⟩,if_pos hp,yH]
  ·rw[if_neg (λq=>e q.1),xA _ _ e];exact(ih i).2
theorem nL:∀(l m:List (Nat×yM))(i:Nat),look (l++m) i=match look l i with|some X=>some X|none=>look m i
 |[],m,i=>by simp[look]|p::l,m,i=>by simp only[List.cons_append,look];cases Nat.beq i p.1 with|true=>rfl|false=>simp only[cond_false];exact nL l m i
theorem C6:∀(l:List (Nat×yM))(H:Nat->Option yM)(i:Nat),gR H l i=match look l i with|some X=>some X|none=>H i
 |[],H,i=>by simp[look,gR]|p::l,H,i=>by
  simp only[look,gR];by_cases e:i=p.1;·subst e;rw[yH];simp
  ·rw[xA _ _ e];have:Nat.beq i p.1=false:=oH e;simp only[this,cond_false];exact C6 l H i
theorem zOz{s:yW}{la:LA}(h:s.fit la){σ₀:wT}{b:Nat}(ho:s.On σ₀ b):la.app (yX σ₀ s)=yX σ₀ (s.app la):=by
 have hH:(la.app (yX σ₀ s)).H=(yX σ₀ (s.app la)).H:=by funext i;show gR (gR (yX σ₀ s).H (la.wr.map λp=>(p.1,p.2.2))) la.al i=match look (la.al++iD s.H la.wr) i with|some X=>some X|none=>σ₀.H i;rw[C6,nL];cases look la.al i with|some X=>rfl|none=>
   simp only;have hpw:∀p∈la.wr,(look s.H p.1).isSome=true:=λp hp=>by rw[h.wr p.1 p.2.1 p.2.2 hp];rfl
   obtain⟨_,hp2⟩:=kX la.wr i hpw;have hp1:=(kX la.wr i hpw).1 i;have hu:∀(l:List (Nat×yM×yM)),(∀p∈l,(look s.H p.1).isSome=true)->gR (yX σ₀ s).H (l.map λp=>(p.1,p.2.2)) i=if(look s.H i).isSome=true then gR (look s.H) (l.map λp=>(p.1,p.2.2)) i else σ₀.H i:=by intro l hl;induction l with|nil=>simp only[List.map_nil,gR,yX];cases look s.H i<;>rfl|cons p l ih=>
     simp only[List.map_cons,gR];by_cases e:i=p.1;·subst e;rw[yH,yH,if_pos (hl p (by simp))]
     ·rw[xA _ _ e,xA _ _ e];exact ih (λq hq=>hl q (by simp[hq]))
   rw[hu la.wr hpw];cases hl:look s.H i with
   |none=>
    rw[hl]at hp1;simp only[Option.isSome_none]at hp1;have:look (iD s.H la.wr) i=none:=by cases hq:look (iD s.H la.wr) i with|none=>rfl|some X=>rw[hq]at hp1;cases hp1
    rw[this];rfl|some X=>rw[hl]at hp2 hp1;simp only[Option.isSome_some,if_true]at hp2 hp1⊢;rw[<-hp2];cases hq:look (iD s.H la.wr) i with|none=>rw[hq]at hp1;cases hp1|some Y=>rfl
 have hO:(la.app (yX σ₀ s)).own=(yX σ₀ (s.app la)).own:=by
  funext k;show(if s.ns<=k/\k<s.ns+la.new then true else if k∈la.use then false else(s.own.any (Nat.beq k)||σ₀.own k))=((nK s.ns la.new++s.own.filter (λk=>!(la.use.any (Nat.beq k)))).any (Nat.beq k)||σ₀.own k);rw[List.any_append];by_cases hk:s.ns<=k/\k<s.ns+la.new;·rw[if_pos hk,vV.2 ((dH la.new).2 hk)];rfl
  ·rw[if_neg hk];have h1:(nK s.ns la.new).any (Nat.beq k)=false:=by cases hf:(nK s.ns la.new).any (Nat.beq k)with|false=>rfl|true=>exact absurd ((dH la.new).1 (vV.1 hf)) hk
   rw[h1,Bool.false_or];by_cases hu:k∈la.use
   ·rw[if_pos hu];have h2:(s.own.filter (λk=>!(la.use.any (Nat.beq k)))).any (Nat.beq k)=false:=by cases hf:(s.own.filter (λk=>!(la.use.any (Nat.beq k)))).any (Nat.beq k)with|false=>rfl|true=>have:=vV.1 hf;rw[List.mem_filter]at this;rw[vV.2 hu]at this;simp at this
    have h3:σ₀.own k=false:=by cases hf:σ₀.own k with|false=>rfl|true=>have:=ho.fr k hf;have:=(ho.own k (h.use k hu)).1;omega
    rw[h2,h3];rfl
   ·rw[if_neg hu];congr 1;rw[Bool.eq_iff_iff,vV,vV,List.mem_filter];constructor
    ·intro hm;refine⟨hm,?_⟩;cases hf:la.use.any (Nat.beq k)with|false=>rfl|true=>exact absurd (vV.1 hf) hu
    ·exactλhm=>hm.1
 calc la.app (yX σ₀ s)=⟨(la.app (yX σ₀ s)).H,(la.app (yX σ₀ s)).own,(la.app (yX σ₀ s)).ns⟩:=rfl
  _=⟨(yX σ₀ (s.app la)).H,(yX σ₀ (s.app la)).own,(yX σ₀ (s.app la)).ns⟩:=by rw[hH,hO];rfl
  _=yX σ₀ (s.app la):=rfl
theorem On.app{s:yW}{la:LA}(h:s.fit la){σ₀:wT}{b:Nat}(ho:s.On σ₀ b):(s.app la).On σ₀ b:=by
 obtain⟨n1,n2,n3⟩:=s.app_nx la;refine⟨λi X hX=>?_,λk hk=>?_,ho.fr,Nat.le_trans ho.b (Nat.le_add_right _ _)⟩;·have hX':look (la.al++iD s.H la.wr) i=some X:=hX;rw[nL]at hX';cases hl:look la.al i with
  |some Y=>
   have mem:∀(l:List (Nat×yM))(i:Nat)(Y:yM),look l i=some Y->(i,Y)∈l:=by intro l;induction l with|nil=>intro i Y h;cases h|cons p l ih=>intro i Y h;simp only[look]at h;cases hb:Nat.beq i p.1 with|true=>rw[hb]at h;have:=Nat.eq_of_beq_eq_true hb;subst this;simp only[cond_true,Option.some.injEq]at h;subst h;simp|false=>rw[hb]at h;exact List.mem_cons_of_mem _ (ih i Y h)
   exact n3 i Y (mem _ _ _ hl)|none=>
   rw[hl]at hX';simp only at hX';have hpw:∀p∈la.wr,(look s.H p.1).isSome=true:=λp hp=>by rw[h.wr p.1 p.2.1 p.2.2 hp];rfl
   have hp1:=(kX la.wr i hpw).1 i;rw[hX']at hp1;cases hq:look s.H i with|none=>rw[hq]at hp1;cases hp1|some Y=>exact Nat.lt_of_lt_of_le (ho.H i Y hq) n1
 ·have hk':k∈nK s.ns la.new++s.own.filter (λk=>!(la.use.any (Nat.beq k))):=hk;have hns:(s.app la).ns=s.ns+la.new:=rfl;have:=ho.b;rcases List.mem_append.1 hk' with h1|h1;·have:=(dH la.new).1 h1;omega
  ·have:=ho.own k (List.mem_filter.1 h1).1;omega
theorem fC{s:yW}{ev:Operand->AV}{v:AV}:s.fit {ev:=ev,v:=v}:=⟨λi X h=>by simp at h,λi X Y h=>by simp at h,λi X h=>by simp at h,λh=>by simp at h,λk h=>by simp at h,λh=>by simp at h,λi k v h=>by simp at h,λi k X Y h=>by simp at h⟩
theorem zCN{s:yW}{ev:Operand->AV}{v:AV}{X:yM}:s.fit {ev:=ev,al:=[(s.nx,X)],v:=v}:=⟨λi X h=>by simp at h,λi X Y h=>by simp at h,λi X h=>by simp at h;omega,λh=>by simp at h,λk h=>by simp at h,λh=>by simp at h,λi k v h=>by simp at h,λi k X Y h=>by simp at h⟩
theorem zCO{s:yW}{ev:Operand->AV}{v:AV}{i:Nat}{X:yM}(hX:look s.H i=some X):s.fit {ev:=ev,rd:=[(i,X)],v:=v}:=⟨λj Y h=>by simp at h;obtain⟨rfl,rfl⟩:=h;exact hX,λi X Y h=>by simp at h,λi X h=>by simp at h,λh=>by simp at h,λk h=>by simp at h,λh=>by simp at h,λi k v h=>by simp at h,λi k X Y h=>by simp at h⟩
theorem zHF{s:yW}{ev:Operand->AV}{v:AV}{i:Nat}{X Y:yM}(hX:look s.H i=some X):s.fit {ev:=ev,v:=v,wr:=[(i,X,Y)]}:=⟨λj Y h=>by simp at h,λj A B h=>by simp at h;obtain⟨rfl,rfl,rfl⟩:=h;exact hX,λi X h=>by simp at h,λh=>by simp at h,λk h=>by simp at h,λh=>by simp at h,λi k v h=>by simp at h,λi k X Y h=>by simp at h⟩
theorem zRS{P:Program}{o:Op}{ev:Operand->AV}{s:yW}{la:LA}(h:eop P o ev s=some la):s.fit la:=by
 unfold eop at h;split at h
 ·split at h
  ·split at h;·cases h;exact zCN
   ·cases h
  ·cases h
 ·rename_i x;cases hs:(ev x).sound<;>simp only[hs,cond_true,cond_false,Option.some.injEq,reduceCtorEq]at h;subst h;exact zCN
 ·split at h
  ·split at h
   ·split at h;·rename_i hl _ _ _;cases h;exact zCO (by assumption)
    ·cases h
   ·cases h
  ·cases h
 ·split at h
  ·split at h
   ·rename_i hl;generalize(AV.sound _&&_&&_)=c at h;cases c<;>simp only[cond_true,cond_false,Option.some.injEq,reduceCtorEq]at h;subst h;exact zHF hl
   ·cases h
  ·cases h
 ·split at h
  ·split at h
   ·split at h
    ·generalize(Nat.beq _ _&&_&&_)=c at h;cases c<;>simp only[cond_true,cond_false,reduceCtorEq]at h;split at h;·cases h;exact fC
     ·cases h
    ·cases h
   ·cases h
  ·cases h
 ·split at h
  ·split at h
   ·split at h
    ·split at h;·cases h;exact fC
     ·cases h
    ·cases h
   ·cases h
  ·cases h
 ·cases h;exact zCN
 ·cases h
theorem zEj{P:Program}{t t2:TypeId}{ev:Operand->AV}{a b:AV}{s:yW}{la:LA}(h:mG P t t2 ev a b s=some la):s.fit la:=by
 unfold mG at h;split at h
 ·rename_i e es n o es2 n2 o2 _;split at h
  ·split at h;·generalize(Nat.beq t t2&&_&&_&&_&&_&&_&&_&&_)=c at h;cases c with|false=>cases h|true=>simp only[cond_true]at h;generalize Nat.beq n2 0=d at h;cases d with|true=>simp only[cond_true,Option.some.injEq]at h;subst h;exact fC|false=>
    simp only[cond_false]at h;split at h
    ·cases h;exact⟨λi X h=>by simp at h,λi X Y h=>by simp at h,λi X h=>by simp at h,λh=>by simp at h,λk h=>by simp at h,λ_=>rfl,λi k v h=>by simp at h,λi k X Y h=>by simp at h⟩
    ·rename_i k sz;cases hk:(s.own.any (Nat.beq k)&&Nat.beq sz _)with|false=>rw[hk]at h;cases h|true=>rw[hk]at h;simp only[cond_true,Option.some.injEq]at h;subst h;simp only[Bool.and_eq_true]at hk;exact⟨λi X h=>by simp at h,λi X Y h=>by simp at h,λi X h=>by simp at h,λh=>by simp at h,λj h=>by simp at h;subst h;exact vV.1 hk.1,λ_=>rfl,λi k v h=>by simp at h,λi k X Y h=>by simp at h⟩
    ·cases h;exact⟨λi X h=>by simp at h,λi X Y h=>by simp at h,λi X h=>by simp at h,λh=>by simp at h,λk h=>by simp at h,λ_=>rfl,λi k v h=>by simp at h,λi k X Y h=>by simp at h⟩
    ·cases h
   ·cases h
  ·cases h
 ·cases h
theorem zCP{P:Program}{t t2:TypeId}{ev:Operand->AV}{a:AV}{bs:ByteArray}{s:yW}{la:LA}(h:mY P t t2 ev a bs s=some la):s.fit la:=by
 unfold mY at h;split at h
 ·rename_i e es n o _ _;split at h
  ·split at h;·generalize(Nat.beq es.length _&&_&&_&&_&&_)=c at h;cases c with|false=>cases h|true=>simp only[cond_true]at h;generalize Nat.beq bs.size 0=d at h;cases d with|true=>simp only[cond_true,Option.some.injEq]at h;subst h;exact fC|false=>
    simp only[cond_false]at h;split at h
    ·cases h;exact⟨λi X h=>by simp at h,λi X Y h=>by simp at h,λi X h=>by simp at h,λh=>by simp at h,λk h=>by simp at h,λ_=>rfl,λi k v h=>by simp at h,λi k X Y h=>by simp at h⟩
    ·rename_i k sz;cases hk:(s.own.any (Nat.beq k)&&Nat.beq sz _)with|false=>rw[hk]at h;cases h|true=>rw[hk]at h;simp only[cond_true,Option.some.injEq]at h;subst h;simp only[Bool.and_eq_true]at hk;exact⟨λi X h=>by simp at h,λi X Y h=>by simp at h,λi X h=>by simp at h,λh=>by simp at h,λj h=>by simp at h;subst h;exact vV.1 hk.1,λ_=>rfl,λi k v h=>by simp at h,λi k X Y h=>by simp at h⟩
    ·cases h;exact⟨λi X h=>by simp at h,λi X Y h=>by simp at h,λi X h=>by simp at h,λh=>by simp at h,λk h=>by simp at h,λ_=>rfl,λi k v h=>by simp at h,λi k X Y h=>by simp at h⟩
    ·cases h
   ·cases h
  ·cases h
 ·cases h
theorem kC{P:Program}{o:Op}{ev:Operand->AV}{s:yW}{la:LA}(h:R2 P o ev s=some la):s.fit la:=by
 unfold R2 at h;split at h;·cases h;exact fC
 ·rename_i hn;clear hn;split at h
  ·unfold kB at h;split at h
   ·split at h
    ·rename_i hl;split at h;·generalize sS _=c at h;cases c with|false=>cases h|true=>simp only[cond_true,Option.some.injEq]at h;subst h;exact zCO hl
     ·cases h
    ·cases h
   ·cases h
  ·unfold rL at h;split at h
   ·split at h
    ·rename_i hl;split at h;·generalize sS _=c at h;cases c with|false=>cases h|true=>simp only[cond_true,Option.some.injEq]at h;subst h;exact zHF hl
     ·cases h
    ·cases h
   ·cases h
  ·unfold zCH at h;split at h;·cases h;exact zCN
   ·cases h
  ·unfold zBl at h;split at h
   ·split at h
    ·rename_i hl;generalize Nat.blt _ _=c at h;cases c with|true=>simp only[cond_true,Option.some.injEq]at h;subst h;exact zHF hl|false=>simp only[cond_false,Option.some.injEq]at h;subst h;exact zCO hl
    ·cases h
   ·cases h
  ·split at h
   ·unfold zEq at h;split at h;·exact zCP h
    ·exact zEj h
   ·cases h
  ·exact zRS h
def tP(P:Program)(f:FuncId)(args:List AV)(la:LA):Prop:=∀(dst:Option Tmp)(type:TypeId)(pos:String)(after:Array Edge)(guard:Option (Nat×Bool))(g:Operand)(cargs:Array Operand)(argTypes:Array TypeId)(first caps:List AV)(ev:Operand->AV),ev g=.clo f first caps->args=first++cargs.toList.map ev++caps->xW P ⟨dst,.call {callee:=.value g,args:=cargs,argTypes:=argTypes},type,pos,after,guard⟩ {la with ev:=ev}
def rV(P:Program)(call:FuncId->List AV->yW->Option LA):Prop:=∀f args s la,call f args s=some la->s.fit la/\tP P f args la
structure kY(s s':yW):Prop where
 nx:s.nx<=s'.nx
 dirty:∀i,i∈s.dirty->i∈s'.dirty
 still:∀i X,look s.H i=some X->i<s.nx->i∉s'.dirty->look s'.H i=some X
 held:∀i X,look s'.H i=some X->s.nx<=i\/∃Y,look s.H i=some Y
theorem kY.refl(s:yW):kY s s:=⟨Nat.le_refl _,λ_ h=>h,λ_ _ h _ _=>h,λ_ X h=>.inr ⟨X,h⟩⟩
theorem kY.trans{s s₁ s₂:yW}(h:kY s s₁)(k:kY s₁ s₂):kY s s₂:=⟨Nat.le_trans h.nx k.nx,λi hi=>k.dirty i (h.dirty i hi),λi X hX hlt hd=>k.still i X (h.still i X hX hlt (λe=>hd (k.dirty i e))) (Nat.lt_of_lt_of_le hlt h.nx) hd,λi X hX=>(k.held i X hX).elim (λhle=>.inl (Nat.le_trans h.nx hle)) (λ⟨Y,hY⟩=>h.held i Y hY)⟩
theorem C7{H:List (Nat×yM)}:∀(l:List (Nat×yM×yM))(i:Nat),i∉l.map (·.1)->look (iD H l) i=look H i|[],_,_=>rfl|p::l,i,h=>by simp only[List.map_cons,List.mem_cons,not_or]at h;simp only[iD,C4];rw[if_neg (λe=>h.1 e.1)];exact C7 l i h.2
theorem dJ:∀(l:List (Nat×yM))(i:Nat),(∀X,(i,X)∉l)->look l i=none
 |[],_,_=>rfl|p::l,i,h=>by
  simp only[look];have hne:i≠p.1:=by rintro rfl;exact h p.2 (by simp)
  rw[oH hne];exact dJ l i (λX hX=>h X (by simp[hX]))
theorem kY.app{s:yW}{la:LA}(h:s.fit la):kY s (s.app la):=by
 refine⟨(s.app_nx la).1,λi hi=>?_,λi X hX hlt hd=>?_,λi X hX=>?_⟩;·show i∈la.wr.map (·.1)++s.dirty;simp[hi]
 ·have hd':i∉la.wr.map (·.1)++s.dirty:=hd;simp only[List.mem_append,not_or]at hd';show look (la.al++iD s.H la.wr) i=some X;rw[nL,dJ la.al i (λY hY=>by have:=h.al i Y hY;omega)];simp only;rw[C7 _ _ hd'.1,hX]
 ·have hX':look (la.al++iD s.H la.wr) i=some X:=hX;by_cases hi:s.nx<=i;·exact .inl hi
  ·rw[nL,dJ la.al i (λY hY=>hi (h.al i Y hY))]at hX';simp only at hX';have hpw:∀p∈la.wr,(look s.H p.1).isSome=true:=λp hp=>by rw[h.wr p.1 p.2.1 p.2.2 hp];rfl
   have hp1:=(kX la.wr i hpw).1 i;rw[hX']at hp1;exact .inr (Option.isSome_iff_exists.1 (by simpa using hp1))
def idx(k:Nat):List Nat->Nat->Option Nat|[],_=>none|j::l,t=>bif Nat.beq k j then some t else idx k l (t+1)
theorem zEi{k:Nat}:∀(l:List Nat)(t r:Nat),idx k l t=some r->t<=r/\l[r-t]?=some k|[],_,_,h=>by cases h|j::l,t,r,h=>by simp only[idx]at h;cases hb:Nat.beq k j with|true=>rw[hb]at h;simp only[cond_true,Option.some.injEq]at h;subst h;have:=Nat.eq_of_beq_eq_true hb;subst this;simp|false=>rw[hb]at h;obtain⟨h1,h2⟩:=zEi l (t+1) r h;refine⟨by omega,?_⟩;rw[show r-t=(r-(t+1))+1 by omega];simpa using h2
theorem zHG{P:Program}{H H':Nat->Option yM}(hH:∀i X,H i=some X->H' i=some X){env:List AV}{r:ResultVar}{v:AV}(h:Z1 P H env r=some v):Z1 P H' env r=some v:=by cases r with|tmp t=>exact h|cell b t=>
 simp only[Z1]at h⊢;split at h
 ·rename_i q i off hq he;split at h;·rename_i cs hcs;rw[hH _ _ hcs];exact h
  ·cases h
 ·cases h
theorem Z3{P:Program}{H H':Nat->Option yM}(hH:∀i X,H i=some X->H' i=some X){env:List AV}:∀{rs:List ResultVar}{v:List AV},bV P H env rs=some v->bV P H' env rs=some v
 |[],_,h=>h|r::rs,v,h=>by
  simp only[bV]at h⊢;split at h
  ·rename_i v' vs h1 h2;rw[zHG hH h1,Z3 hH h2];exact h
  ·cases h
theorem zLa{P:Program}{H H':Nat->Option yM}(hH:∀i X,H i=some X->H' i=some X){env:List AV}{rs:List ResultVar}{v:AV}(h:Z2 P H env rs=some v):Z2 P H' env rs=some v:=by unfold Z2 at h⊢;cases hr:bV P H env rs with|none=>rw[hr]at h;cases h|some vs=>rw[hr]at h;rw[Z3 hH hr];exact h
theorem zLb.ev{P:Program}{f:FuncId}{args:List AV}{la:LA}(h:zLb P f args la)(ev:Operand->AV):zLb P f args {la with ev:=ev}:=λG σ w cargs hR hv hc=>h G σ w cargs hR hv ⟨hc.rd,hc.wr,hc.al,hc.use,hc.ns,hc.hole,hc.rc,hc.kp⟩
theorem tP.of{P:Program}{f:FuncId}{args:List AV}{la:LA}{fn:Func}(hf:P.funcs[f]?=some fn)(hname:(fn.name=="runtime.NumGoroutine")=false)(hb:fn.body.isNone=false)(h:zLb P f args la):tP P f args la:=by intro dst type pos after guard g cargs argTypes first caps ev hg hargs;subst hargs;exact xW.call (la:={la with ev:=ev}) hg hf hname hb (h.ev ev)
def vW(k:Nat):wT:=⟨λ_=>none,λ_=>false,k⟩
def base(W:World)(L:Nat->Nat->Prop):Gh:=⟨λ_=>none,λ_=>none,L,W,λk=>k<W.heap.size,λ_=>False⟩
mutual def AV.Data:AV->Prop|.val _=>True|.agg cs=>AV.DataL cs|.tup cs=>AV.DataL cs|.sl es _ o=>o.plain/\AV.DataL es|.ip es=>AV.DataL es|.mp _ _=>False|.ms _ _ _ _ _=>False|.obj _=>False|.clo _ fs cs=>AV.DataL fs/\AV.DataL cs def AV.DataL:List AV->Prop|[]=>True|a::l=>AV.Data a/\AV.DataL l end
mutual theorem V.data{G G':Gh}{w:World}(hL:∀b o,G.L b o->G'.L b o):∀(a:AV)(u:Value),a.Data->V G w a u->V G' w a u
 |.val v,u,_,hv=>by simpa only[V]using hv|.agg cs,u,hd,hv=>by simp only[V,AV.Data]at hd hv⊢;obtain⟨vs,rfl,hl⟩:=hv;exact⟨vs,rfl,VL.data hL cs vs hd hl⟩|.tup cs,u,hd,hv=>by simp only[V,AV.Data]at hd hv⊢;obtain⟨vs,rfl,hl⟩:=hv;exact⟨vs,rfl,VL.data hL cs vs hd hl⟩|.sl es n o,u,hd,hv=>by
  simp only[V,AV.Data]at hd hv⊢;obtain⟨cap,hc,hh⟩:=hv;refine⟨cap,hc,?_⟩;rcases hh with hh|⟨b,off,hu,hcells,ho⟩
  ·refine .inl ⟨hh.1,hh.2.1,hh.2.2.1,hh.2.2.2.1,?_⟩;cases o with|no=>trivial|full=>trivial|nl=>exact hh.2.2.2.2|nn=>exact hh.2.2.2.2|fr=>exact hd.1.elim|z=>trivial|st k sz=>exact hd.1.elim
  ·refine .inr ⟨b,off,hu,VC.data hL es b off hd.2 hcells,?_⟩;cases o with|no=>trivial|full=>exact ho|nl=>exact ho|nn=>trivial|fr=>exact hd.1.elim|z=>exact ho|st k sz=>exact hd.1.elim
 |.ip es,u,hd,hv=>by simp only[V,AV.Data]at hd hv⊢;obtain⟨b,off,hu,hcells⟩:=hv;exact⟨b,off,hu,VC.data hL es b off hd hcells⟩|.mp _ _,_,hd,_=>by simp only[AV.Data]at hd|.ms _ _ _ _ _,_,hd,_=>by simp only[AV.Data]at hd|.obj _,_,hd,_=>by simp only[AV.Data]at hd|.clo f fs cs,u,hd,hv=>by simp only[V,AV.Data]at hd hv⊢;obtain⟨l,r,hu,h1,h2⟩:=hv;exact⟨l,r,hu,VL.data hL fs l hd.1 h1,VL.data hL cs r hd.2 h2⟩theorem VL.data{G G':Gh}{w:World}(hL:∀b o,G.L b o->G'.L b o):∀(as0:List AV)(us:List Value),AV.DataL as0->VL G w as0 us->VL G' w as0 us|[],[],_,_=>by simp only[VL]|a::as0,u::us,hd,hv=>by simp only[VL,AV.DataL]at hd hv⊢;exact⟨V.data hL a u hd.1 hv.1,VL.data hL as0 us hd.2 hv.2⟩|[],_::_,_,hv=>by simp only[VL]at hv|_::_,[],_,hv=>by simp only[VL]at hv theorem VC.data{G G':Gh}{w:World}(hL:∀b o,G.L b o->G'.L b o):∀(as0:List AV)(b off:Nat),AV.DataL as0->VC G w as0 b off->VC G' w as0 b off|[],_,_,_,_=>by simp only[VC]|a::as0,b,off,hd,hv=>by simp only[VC,AV.DataL]at hd hv⊢;obtain⟨h1,⟨v,h2,h3⟩,h4⟩:=hv;exact⟨hL _ _ h1,⟨v,h2,V.data hL a v hd.1 h3⟩,VC.data hL as0 b (off+1) hd.2 h4⟩end
end Go.Ab
