/- Parts of the proof that the law returns true: walks of the functions, plain laws. -/
import Derived.Below
import Derived.Calls
import Derived.ChangeKeysEq
import Derived.IntWalk
import Derived.Laws.Append
import Derived.Laws.AppendOwn
import Derived.Laws.BytesString
import Derived.Laws.CopyRow
import Derived.Laws.LoneSync
import Derived.Laws.MakeOwn
import Derived.Laws.Slices
import Derived.Laws.StructEq
import Derived.Lib.AppendStr
import Derived.LoopN
import Derived.Orders
import Derived.ProofKit
import Derived.Scope
import Derived.Test.YtohkcbcddindpaaGreatRows
set_option linter.unusedVariables false
set_option linter.unusedSimpArgs false
set_option linter.unusedSectionVars false
namespace Go.Ab
open Go Go.RowKit
inductive Own where|no|full|nl|nn|fr|z|st(k sz:Nat)
inductive AV where|val(v:Value)|agg(cs:List AV)|tup(cs:List AV)|sl(es:List AV)(n:Nat)(o:Own)|ip(es:List AV)|mp(b off:Nat)|ms(b off n c sz:Nat)|obj(b:Nat)|clo(f:FuncId)(first caps:List AV)
inductive yL where|cells(cs:List AV)|obj(o:Obj)|row(cs:List AV)|dead
structure vD where
 H:Nat->Option yL
 own:Nat->Bool
 ns:Nat
structure Gh where
 ρ:Nat->Option Nat
 τ:Nat->Option (Nat×Nat×Nat)L:Nat->Nat->Prop
 w0:World
 F:Nat->Prop
 N:Nat->Prop
structure vY(F:Nat->Prop)(w w':World):Prop where
 os:w'.os=w.os
 tape:w'.tape=w.tape
 output:w'.output=w.output
 size:w.heap.size<=w'.heap.size
 block:∀k,F k->w'.heap[k]?=w.heap[k]?
theorem vY.refl(F:Nat->Prop)(w:World):vY F w w:=⟨rfl,rfl,rfl,Nat.le_refl _,λ_ _=>rfl⟩
theorem vY.trans{F:Nat->Prop}{a b c:World}(h:vY F a b)(k:vY F b c):vY F a c:=⟨k.os.trans h.os,k.tape.trans h.tape,k.output.trans h.output,Nat.le_trans h.size k.size,λi hi=>(k.block i hi).trans (h.block i hi)⟩
theorem vY.mono{F F':Nat->Prop}{w w':World}(h:vY F w w')(hF:∀k,F' k->F k):vY F' w w':=⟨h.os,h.tape,h.output,h.size,λk hk=>h.block k (hF k hk)⟩
theorem vY.of_below{B:Nat}{w w':World}(h:Below B w w'){F:Nat->Prop}(hF:∀k,F k->k<B):vY F w w':=⟨h.os,h.tape,h.output,h.size,λk hk=>h.block k (hF k hk)⟩
theorem vY.drew{F:Nat->Prop}{a w:World}(h:vY F a w):vY F a w.drew:=⟨h.os,h.tape,h.output,h.size,h.block⟩
theorem vY.alloc{F:Nat->Prop}{a w:World}(h:vY F a w)(hF:∀k,F k->k<w.heap.size)(o:Obj):vY F a (w.alloc o):=h.trans ⟨rfl,rfl,rfl,by simp,λk hk=>Below.heap_alloc _ _ _ (hF k hk)⟩
def o7(w:World)(b m:Nat):Prop:=∃vs T,w.heap[b]?=some (.cells vs T (0,0))/\m<=vs.size
def kR(G:Gh)(b off m n cap:Nat):Own->Prop|.no=>True|.full=>cap=n|.nl=>False|.nn=>True|.fr=>G.F b|.z=>n=0->cap=0|.st k sz=>(∃q,G.τ k=some q)/\((n=0/\cap=0)\/(m=n*sz/\¬G.F b/\G.τ k=some (b,off+m,off+cap*sz)))
def Own.plain:Own->Prop|.st _ _=>False|.fr=>False|_=>True
def aB:Value->Option Addr|.slice p _ _=>p|_=>none
def Own.nil(G:Gh)(p:Option Addr):Own->Prop|.st k _=>∃q,G.τ k=some q|.nn=>∃a,p=some a|.nl=>p=none|_=>True
theorem Own.nil.mono{G G':Gh}{p:Option Addr}{o:Own}(h:o.nil G p)(hτ:∀k r,G.τ k=some r->G'.τ k=some r):o.nil G' p:=by cases o with|no=>trivial|full=>trivial|nl=>exact h|nn=>exact h|fr=>trivial|z=>trivial|st k sz=>obtain⟨q,hq⟩:=h;exact⟨q,hτ _ _ hq⟩
mutual def V(G:Gh)(w:World):AV->Value->Prop|.val v,u=>u=v|.agg cs,u=>∃vs:List Value,u=.agg vs.toArray/\VL G w cs vs|.tup cs,u=>∃vs:List Value,u=.tuple vs.toArray/\VL G w cs vs|.sl es n o,u=>∃cap,n<=cap/\((es=[]/\n=0/\cap=0/\u=.slice (aB u) 0 0/\o.nil G (aB u))\/∃b off,u=.slice (some ⟨b,off,none⟩) n cap/\VC G w es b off/\kR G b off es.length n cap o)|.ip es,u=>∃b off,u=.pointer (some ⟨b,off,none⟩)/\VC G w es b off|.mp i off,u=>∃b,G.ρ i=some b/\u=.pointer (some ⟨b,off,none⟩)|.ms i off n c sz,u=>(∃b cap,G.ρ i=some b/\(n<=c/\c<=cap)/\∃o,u=.slice (some ⟨b,o,none⟩) n cap/\((o=off/\o7 w b (off+cap*sz))\/(c=0/\0<off)))\/((n=0/\c=0)/\G.N i/\∃p,u=.slice p 0 0)|.obj i,u=>∃b,G.ρ i=some b/\u=.map (some b)|.clo f fs cs,u=>∃l r:List Value,u=.func (.func f) l.toArray r.toArray/\VL G w fs l/\VL G w cs r def VL(G:Gh)(w:World):List AV->List Value->Prop|[],[]=>True|a::as0,u::us=>V G w a u/\VL G w as0 us|_,_=>False def VC(G:Gh)(w:World):List AV->Nat->Nat->Prop|[],_,_=>True|a::as0,b,off=>G.L b off/\(∃v,w.cell? ⟨b,off,none⟩=some v/\V G w a v)/\VC G w as0 b (off+1)end
structure vL(G:Gh)(w:World)(G':Gh)(w':World):Prop where
 ρ:∀i b,G.ρ i=some b->G'.ρ i=some b
 τ:∀k r,G.τ k=some r->G'.τ k=some r
 L:∀b o,G.L b o->G'.L b o
 cell:∀b o,G.L b o->w'.cell? ⟨b,o,none⟩=w.cell? ⟨b,o,none⟩w0:G'.w0=G.w0
 F:G'.F=G.F
 newL:∀b o,G'.L b o->G.L b o\/¬G.F b
 room:∀i b m,G.ρ i=some b->o7 w b m->o7 w' b m
 N:∀i,G.N i->G'.N i
theorem vL.refl(G:Gh)(w:World):vL G w G w:=⟨λ_ _ h=>h,λ_ _ h=>h,λ_ _ h=>h,λ_ _ _=>rfl,rfl,rfl,λ_ _ h=>.inl h,λ_ _ _ _ h=>h,λ_ h=>h⟩
theorem vL.trans{G G₁ G₂:Gh}{w w₁ w₂:World}(h:vL G w G₁ w₁)(k:vL G₁ w₁ G₂ w₂):vL G w G₂ w₂:=⟨λi b e=>k.ρ i b (h.ρ i b e),λi b e=>k.τ i b (h.τ i b e),λb o e=>k.L b o (h.L b o e),λb o e=>(k.cell b o (h.L b o e)).trans (h.cell b o e),k.w0.trans h.w0,k.F.trans h.F,λb o e=>(k.newL b o e).elim (h.newL b o) (λq=>.inr (h.F▸q)),λi b m e r=>k.room i b m (h.ρ i b e) (h.room i b m e r),λi e=>k.N i (h.N i e)⟩
theorem kR.mono{G G':Gh}(hF:G'.F=G.F)(hτ:∀k r,G.τ k=some r->G'.τ k=some r){b off m n cap:Nat}{o:Own}(h:kR G b off m n cap o):kR G' b off m n cap o:=by cases o with|no=>trivial|full=>exact h|nl=>exact h|nn=>trivial|fr=>show G'.F b;rw[hF];exact h|z=>exact h|st k sz=>exact⟨h.1.imp λq=>hτ _ _,h.2.imp id λ⟨h1,h2,h3⟩=>⟨h1,by rw[hF];exact h2,hτ _ _ h3⟩⟩
mutual theorem V.mono{G G':Gh}{w w':World}(h:vL G w G' w'):∀(a:AV)(u:Value),V G w a u->V G' w' a u
 |.val v,u,hv=>by simpa only[V]using hv|.agg cs,u,hv=>by simp only[V]at hv⊢;obtain⟨vs,rfl,hl⟩:=hv;exact⟨vs,rfl,VL.mono h cs vs hl⟩|.tup cs,u,hv=>by simp only[V]at hv⊢;obtain⟨vs,rfl,hl⟩:=hv;exact⟨vs,rfl,VL.mono h cs vs hl⟩|.sl es n o,u,hv=>by
  simp only[V]at hv⊢;obtain⟨cap,hc,hh⟩:=hv;refine⟨cap,hc,?_⟩;rcases hh with hh|⟨b,off,hu,hcells,ho⟩;·exact .inl ⟨hh.1,hh.2.1,hh.2.2.1,hh.2.2.2.1,hh.2.2.2.2.mono h.τ⟩
  ·exact .inr ⟨b,off,hu,VC.mono h es b off hcells,ho.mono h.F h.τ⟩|.ip es,u,hv=>by simp only[V]at hv⊢;obtain⟨b,off,hu,hcells⟩:=hv;exact⟨b,off,hu,VC.mono h es b off hcells⟩|.mp i off,u,hv=>by simp only[V]at hv⊢;obtain⟨b,hb,hu⟩:=hv;exact⟨b,h.ρ _ _ hb,hu⟩|.ms i off n c sz,u,hv=>by
  simp only[V]at hv⊢;rcases hv with⟨b,cap,hb,hn,o,hu,hr⟩|⟨hn,hN,hv⟩;·exact .inl ⟨b,cap,h.ρ _ _ hb,hn,o,hu,hr.imp (λq=>⟨q.1,h.room _ _ _ hb q.2⟩) id⟩
  ·exact .inr ⟨hn,h.N _ hN,hv⟩|.obj i,u,hv=>by simp only[V]at hv⊢;obtain⟨b,hb,hu⟩:=hv;exact⟨b,h.ρ _ _ hb,hu⟩|.clo f fs cs,u,hv=>by simp only[V]at hv⊢;obtain⟨l,r,hu,h1,h2⟩:=hv;exact⟨l,r,hu,VL.mono h fs l h1,VL.mono h cs r h2⟩theorem VL.mono{G G':Gh}{w w':World}(h:vL G w G' w'):∀(as0:List AV)(us:List Value),VL G w as0 us->VL G' w' as0 us|[],[],_=>by simp only[VL]|a::as0,u::us,hv=>by simp only[VL]at hv⊢;exact⟨V.mono h a u hv.1,VL.mono h as0 us hv.2⟩|[],_::_,hv=>by simp only[VL]at hv|_::_,[],hv=>by simp only[VL]at hv theorem VC.mono{G G':Gh}{w w':World}(h:vL G w G' w'):∀(as0:List AV)(b off:Nat),VC G w as0 b off->VC G' w' as0 b off|[],_,_,_=>by simp only[VC]|a::as0,b,off,hv=>by simp only[VC]at hv⊢;obtain⟨hL,⟨v,hv,ha⟩,hr⟩:=hv;exact⟨h.L _ _ hL,⟨v,(h.cell _ _ hL).trans hv,V.mono h a v ha⟩,VC.mono h as0 b (off+1) hr⟩end
def fR(G:Gh)(w:World)(cs:List AV)(l:List Value):Prop:=∃us rest,l=us++rest/\VL G w cs us
theorem fR.of{G:Gh}{w:World}{cs:List AV}{l:List Value}(h:VL G w cs l):fR G w cs l:=⟨l,[],by simp,h⟩
theorem fR.imp{G G':Gh}{w w':World}{cs cs':List AV}{l:List Value}(h:fR G w cs l)(k:∀us,VL G w cs us->VL G' w' cs' us):fR G' w' cs' l:=by obtain⟨us,rest,e,hv⟩:=h;exact⟨us,rest,e,k us hv⟩
def zDY:Obj->Prop|.cells ..=>False|_=>True
def vZ(G:Gh)(w:World)(b:Nat):yL->Prop|.cells cs=>∃vs T,w.heap[b]?=some (.cells vs T (0,0))/\fR G w cs vs.toList|.obj o=>w.heap[b]?=some o/\zDY o|.row cs=>∃vs T,w.heap[b]?=some (.cells vs T (0,0))/\fR G w cs vs.toList|.dead=>b<w.heap.size
def yL.void:yL->Prop|.dead=>True|.row []=>True|_=>False
theorem yL.void_row{cs:List AV}(h:(yL.row cs).void):cs=[]:=by cases cs with|nil=>rfl|cons a l=>exact h.elim
def iO(r:Option Nat)(N:Prop)(x:Option yL):Prop:=(r=none->N\/x=none)/\(x=none->r=none/\¬N)/\(N->r=none/\∀X,x=some X->X.void)
theorem iO.some{b:Nat}{N:Prop}{X:yL}(h:¬N):iO (some b) N (some X):=⟨λe=>(by cases e),λe=>(by cases e),λe=>absurd e h⟩
theorem iO.map{r:Option Nat}{N:Prop}{x:Option yL}{f:yL->yL}(h:iO r N x)(hf:∀X,X.void->(f X).void):iO r N (x.map f):=by cases x with|none=>exact h|some X=>exact⟨λe=>(h.1 e).imp id λq=>(by cases q),λe=>(by cases e),λe=>⟨(h.2.2 e).1,λY hY=>by cases hY;exact hf X ((h.2.2 e).2 X rfl)⟩⟩
structure yM(G:Gh)(σ:vD)(w:World):Prop where
 dom:∀i,iO (G.ρ i) (G.N i) (σ.H i)fin:∃N,∀i,N<=i->σ.H i=none
 inj:∀i j b,G.ρ i=some b->G.ρ j=some b->i=j\/σ.H i=some .dead\/σ.H j=some .dead
 blk:∀i b X,G.ρ i=some b->σ.H i=some X->¬G.F b/\vZ G w b X
 live:∀b o,G.L b o->(∃v,w.cell? ⟨b,o,none⟩=some v)/\∀i,G.ρ i≠some b
 τns:∀k,σ.ns<=k->G.τ k=none
 own:∀k,σ.own k=true->∃b f t,G.τ k=some (b,f,t)/\(t<f\/(¬G.F b/\(∀i,G.ρ i≠some b)/\(∀o,f<=o->o<t->¬G.L b o)/\∃vs T,w.heap[b]?=some (.cells vs T (0,0))/\t<=vs.size))ownd:∀k k' b f t f' t',σ.own k=true->σ.own k'=true->G.τ k=some (b,f,t)->G.τ k'=some (b,f',t')->f<t->f'<t'->k=k'
 below:vY G.F G.w0 w
 base:∀k,G.F k->k<w.heap.size
theorem VL.length{G:Gh}{w:World}:∀(as0:List AV)(us:List Value),VL G w as0 us->us.length=as0.length|[],[],_=>rfl|_::as0,_::us,h=>by simp only[VL]at h;simp[VL.length as0 us h.2]|[],_::_,h=>by simp only[VL]at h|_::_,[],h=>by simp only[VL]at h
theorem VL.get{G:Gh}{w:World}:∀(as0:List AV)(us:List Value),VL G w as0 us->∀(i:Nat)(a:AV),as0[i]?=some a->∃u,us[i]?=some u/\V G w a u
 |[],[],_,i,a,h=>by simp at h|x::as0,y::us,h,i,a,ha=>by simp only[VL]at h;cases i with|zero=>simp at ha;subst ha;exact⟨y,rfl,h.1⟩|succ i=>simp at ha;simpa using VL.get as0 us h.2 i a ha
 |[],_::_,h,_,_,_=>by simp only[VL]at h|_::_,[],h,_,_,_=>by simp only[VL]at h
theorem VL.set{G:Gh}{w:World}:∀(as0:List AV)(us:List Value),VL G w as0 us->∀(i:Nat)(a:AV)(u:Value),V G w a u->VL G w (as0.set i a) (us.set i u)
 |[],[],_,i,a,u,_=>by simp[VL]|x::as0,y::us,h,i,a,u,hv=>by simp only[VL]at h;cases i with|zero=>simp only[List.set_cons_zero,VL];exact⟨hv,h.2⟩|succ i=>simp only[List.set_cons_succ,VL];exact⟨h.1,VL.set as0 us h.2 i a u hv⟩
 |[],_::_,h,_,_,_,_=>by simp only[VL]at h|_::_,[],h,_,_,_,_=>by simp only[VL]at h
theorem VL.append{G:Gh}{w:World}:∀(as0:List AV)(us:List Value)(bs:List AV)(vs:List Value),VL G w as0 us->VL G w bs vs->VL G w (as0++bs) (us++vs)|[],[],_,_,_,k=>k|a::as0,u::us,bs,vs,h,k=>by simp only[VL]at h;simp only[List.cons_append,VL];exact⟨h.1,VL.append as0 us bs vs h.2 k⟩|[],_::_,_,_,h,_=>by simp only[VL]at h|_::_,[],_,_,h,_=>by simp only[VL]at h
theorem VL.drop{G:Gh}{w:World}:∀(as0:List AV)(us:List Value)(n:Nat),VL G w as0 us->VL G w (as0.drop n) (us.drop n)|as0,us,0,h=>by simpa using h|[],[],n+1,_=>by simp[VL]|a::as0,u::us,n+1,h=>by simp only[VL]at h;simpa using VL.drop as0 us n h.2|[],_::_,_+1,h=>by simp only[VL]at h|_::_,[],_+1,h=>by simp only[VL]at h
theorem VL.take{G:Gh}{w:World}:∀(as0:List AV)(us:List Value)(n:Nat),VL G w as0 us->VL G w (as0.take n) (us.take n)|as0,us,0,h=>by simp[VL]|[],[],n+1,_=>by simp[VL]|a::as0,u::us,n+1,h=>by simp only[VL]at h;simp only[List.take_succ_cons,VL];exact⟨h.1,VL.take as0 us n h.2⟩|[],_::_,_+1,h=>by simp only[VL]at h|_::_,[],_+1,h=>by simp only[VL]at h
theorem VC.drop{G:Gh}{w:World}:∀(as0:List AV)(b off n:Nat),VC G w as0 b off->VC G w (as0.drop n) b (off+n)|as0,b,off,0,h=>by simpa using h|[],b,off,n+1,_=>by simp[VC]|a::as0,b,off,n+1,h=>by simp only[VC]at h;have:=VC.drop as0 b (off+1) n h.2.2;simp only[List.drop_succ_cons];rwa[show off+(n+1)=off+1+n by omega]
theorem VC.take{G:Gh}{w:World}:∀(as0:List AV)(b off n:Nat),VC G w as0 b off->VC G w (as0.take n) b off|as0,b,off,0,h=>by simp[VC]|[],b,off,n+1,_=>by simp[VC]|a::as0,b,off,n+1,h=>by simp only[VC]at h;simp only[List.take_succ_cons,VC];exact⟨h.1,h.2.1,VC.take as0 b (off+1) n h.2.2⟩
theorem VC.append{G:Gh}{w:World}:∀(as0 bs:List AV)(b off:Nat),VC G w as0 b off->VC G w bs b (off+as0.length)->VC G w (as0++bs) b off|[],bs,b,off,_,k=>by simpa using k|a::as0,bs,b,off,h,k=>by simp only[VC]at h;simp only[List.cons_append,VC];exact⟨h.1,h.2.1,VC.append as0 bs b (off+1) h.2.2 (by simpa[Nat.add_assoc,Nat.add_comm 1]using k)⟩
theorem fR.le{G:Gh}{w:World}{cs:List AV}{l:List Value}(h:fR G w cs l):cs.length<=l.length:=by obtain⟨us,rest,rfl,hv⟩:=h;have:=VL.length _ _ hv;simp;omega
theorem fR.get{G:Gh}{w:World}{cs:List AV}{l:List Value}(h:fR G w cs l)(i:Nat)(a:AV)(ha:cs[i]?=some a):∃u,l[i]?=some u/\V G w a u:=by obtain⟨us,rest,rfl,hv⟩:=h;obtain⟨u,h1,h2⟩:=VL.get _ _ hv i a ha;exact⟨u,by rw[List.getElem?_append_left (List.getElem?_eq_some_iff.1 h1).1];exact h1,h2⟩
theorem fR.set{G:Gh}{w:World}{cs:List AV}{l:List Value}(h:fR G w cs l)(i:Nat)(hi:i<cs.length)(a:AV)(u:Value)(hu:V G w a u):fR G w (cs.set i a) (l.set i u):=by obtain⟨us,rest,rfl,hv⟩:=h;have:=VL.length _ _ hv;exact⟨us.set i u,rest,by rw[List.set_append_left i u (by omega)],VL.set _ _ hv i a u hu⟩
theorem fR.drop{G:Gh}{w:World}{cs:List AV}{l:List Value}(h:fR G w cs l)(n:Nat):fR G w (cs.drop n) (l.drop n):=by
 obtain⟨us,rest,rfl,hv⟩:=h;have:=VL.length _ _ hv;rcases Nat.lt_or_ge us.length n with e|e
 ·refine⟨[],_,rfl,?_⟩;rw[List.drop_eq_nil_of_le (by omega)];simp only[VL]
 ·exact⟨us.drop n,rest,by rw[List.drop_append_of_le_length e],VL.drop _ _ n hv⟩
theorem fR.take{G:Gh}{w:World}{cs:List AV}{l:List Value}(h:fR G w cs l)(n:Nat)(hn:n<=cs.length):VL G w (cs.take n) (l.take n):=by obtain⟨us,rest,rfl,hv⟩:=h;have:=VL.length _ _ hv;rw[List.take_append_of_le_length (by omega)];exact VL.take _ _ n hv
theorem VC.cells{G:Gh}{w:World}:∀(as0:List AV)(b off:Nat),VC G w as0 b off->∃vs:List Value,VL G w as0 vs/\∀i(h:i<vs.length),w.cell? ⟨b,off+i,none⟩=some vs[i]|[],_,_,_=>⟨[],by simp[VL],λi h=>by simp at h⟩|x::as0,b,off,h=>by simp only[VC]at h;obtain⟨_,⟨v,hv,hx⟩,hr⟩:=h;obtain⟨vs,h1,h2⟩:=VC.cells as0 b (off+1) hr;refine⟨v::vs,by simp only[VL];exact⟨hx,h1⟩,λi hi=>?_⟩;cases i with|zero=>simpa using hv|succ i=>have:=h2 i (by simpa using hi);simpa[show off+(i+1)=off+1+i by omega]using this
theorem VC.of_cells{G:Gh}{w:World}:∀(as0:List AV)(vs:List Value)(b off:Nat),VL G w as0 vs->(∀i,i<vs.length->G.L b (off+i))->(∀i(h:i<vs.length),w.cell? ⟨b,off+i,none⟩=some vs[i])->VC G w as0 b off
 |[],_,_,_,_,_,_=>by simp[VC]|a::as0,[],_,_,h,_,_=>by simp only[VL]at h|a::as0,v::vs,b,off,h,hL,hc=>by
  simp only[VL]at h;simp only[VC];refine⟨by simpa using hL 0 (by simp),⟨v,hc 0 (Nat.succ_pos _),h.1⟩,VC.of_cells as0 vs b (off+1) h.2 (λi hi=>?_) (λi hi=>?_)⟩
  ·have:=hL (i+1) (by simpa using hi);rwa[show off+1+i=off+(i+1)by omega]
  ·have:=hc (i+1) (by simpa using hi);simpa[show off+1+i=off+(i+1)by omega]using this
theorem vZ.lt{G:Gh}{w:World}{b:Nat}{X:yL}(hX:vZ G w b X):b<w.heap.size:=by cases X with|cells cs=>obtain⟨vs,T,hh,_⟩:=hX;exact(Array.getElem?_eq_some_iff.1 hh).1|obj o=>exact(Array.getElem?_eq_some_iff.1 hX.1).1|row cs=>obtain⟨vs,T,hh,_⟩:=hX;exact(Array.getElem?_eq_some_iff.1 hh).1|dead=>exact hX
def up{α:Type}(f:Nat->Option α)(i:Nat)(x:α):Nat->Option α:=λj=>if j=i then some x else f j
theorem yR{α:Type}(f:Nat->Option α)(i:Nat)(x:α):up f i x i=some x:=by simp[up]
theorem xO{α:Type}(f:Nat->Option α){i j:Nat}(x:α)(h:j≠i):up f i x j=f j:=by simp[up,h]
theorem nL{α:Type}{f:Nat->Option α}{i j:Nat}{x y:α}(h:up f i x j=some y):(j=i/\y=x)\/(j≠i/\f j=some y):=by
 by_cases hj:j=i;·subst hj;rw[yR]at h;cases h;exact .inl ⟨rfl,rfl⟩
 ·rw[xO f x hj]at h;exact .inr ⟨hj,h⟩
theorem aZ{α:Type}{f:Nat->Option α}{i j:Nat}{x y:α}(hi:f i=none)(h:f j=some y):up f i x j=some y:=by rw[xO];exact h;rintro rfl;rw[hi]at h;cases h
theorem yM.has{G:Gh}{σ:vD}{w:World}(h:yM G σ w){i b:Nat}(hi:G.ρ i=some b):∃X,σ.H i=some X:=by cases hX:σ.H i with|none=>rw[((h.dom i).2.1 hX).1]at hi;cases hi|some X=>exact⟨X,rfl⟩
theorem yM.look{G:Gh}{σ:vD}{w:World}(h:yM G σ w){i:Nat}{X:yL}(hi:σ.H i=some X)(hv:¬X.void:=by exact id):∃b,G.ρ i=some b/\¬G.F b/\vZ G w b X:=by cases hb:G.ρ i with
 |none=>
  rcases(h.dom i).1 hb with e|e;·exact absurd (((h.dom i).2.2 e).2 X hi) hv
  ·rw[e]at hi;cases hi|some b=>exact⟨b,rfl,h.blk i b X hb hi⟩
theorem yM.ρN{G:Gh}{σ:vD}{w:World}(h:yM G σ w){i b:Nat}(hi:G.ρ i=some b):¬G.N i:=λe=>by rw[((h.dom i).2.2 e).1]at hi;cases hi
theorem yM.Nvoid{G:Gh}{σ:vD}{w:World}(h:yM G σ w){i:Nat}{X:yL}(e:G.N i)(hi:σ.H i=some X):X.void:=((h.dom i).2.2 e).2 X hi
theorem yM.dom_up{G:Gh}{σ:vD}{w:World}(h:yM G σ w){i b:Nat}(hi:G.ρ i=some b)(Z:yL)(j:Nat):iO (G.ρ j) (G.N j) (up σ.H i Z j):=by
 by_cases hj:j=i;·subst hj;rw[yR,hi];exact .some (h.ρN hi)
 ·rw[xO _ _ hj];exact h.dom j
theorem yM.fnew{G:Gh}{σ:vD}{w:World}(h:yM G σ w):¬G.F w.heap.size:=λhF=>Nat.lt_irrefl _ (h.base _ hF)
theorem yM.ρ_lt{G:Gh}{σ:vD}{w:World}(h:yM G σ w){i b:Nat}(hi:G.ρ i=some b):b<w.heap.size:=by obtain⟨X,hX⟩:=h.has hi;exact(h.blk i b X hi hX).2.lt
theorem yM.L_lt{G:Gh}{σ:vD}{w:World}(h:yM G σ w){b o:Nat}(hL:G.L b o):b<w.heap.size:=by obtain⟨⟨v,hv⟩,_⟩:=h.live b o hL;exact World.block_lt_of_cell? w ⟨b,o,none⟩ hv
theorem zIQ{w w':World}{b:Nat}(hb:w'.heap[b]?=w.heap[b]?)(h:b<w.heap.size):b<w'.heap.size:=by rw[Array.getElem?_eq_getElem h]at hb;exact(Array.getElem?_eq_some_iff.1 hb).1
theorem o7.same{w w':World}{b m:Nat}(hb:w'.heap[b]?=w.heap[b]?)(h:o7 w b m):o7 w' b m:=by obtain⟨vs,T,h1,h2⟩:=h;exact⟨vs,T,hb.trans h1,h2⟩
theorem o7.lt{w:World}{b m:Nat}(h:o7 w b m):b<w.heap.size:=by obtain⟨vs,T,h1,_⟩:=h;exact(Array.getElem?_eq_some_iff.1 h1).1
theorem o7.alloc{w:World}{b m:Nat}(o:Obj)(h:o7 w b m):o7 (w.alloc o) b m:=h.same (Below.heap_alloc w o b h.lt)
theorem vZ.mono{G G':Gh}{w w':World}(h:vL G w G' w'){b:Nat}(hb:w'.heap[b]?=w.heap[b]?){X:yL}(hX:vZ G w b X):vZ G' w' b X:=by cases X with|cells cs=>obtain⟨vs,T,hh,hl⟩:=hX;exact⟨vs,T,hb.trans hh,hl.imp (VL.mono h _)⟩|obj o=>exact⟨hb.trans hX.1,hX.2⟩|row cs=>obtain⟨vs,T,hh,hl⟩:=hX;exact⟨vs,T,hb.trans hh,hl.imp (VL.mono h _)⟩|dead=>exact zIQ hb hX
def Gh.addρ(G:Gh)(i b:Nat):Gh:={G with ρ:=up G.ρ i b}
def Gh.addL(G:Gh)(b lo hi:Nat):Gh:={G with L:=λc o=>G.L c o\/(c=b/\lo<=o/\o<hi)}
def Gh.addτ(G:Gh)(k:Nat)(r:Nat×Nat×Nat):Gh:={G with τ:=up G.τ k r}
theorem rJ(w:World)(o:Obj){k:Nat}(h:k<w.heap.size):(w.alloc o).heap[k]?=w.heap[k]?:=Below.heap_alloc w o k h
theorem uO(w:World)(o:Obj):(w.alloc o).heap[w.heap.size]?=some o:=by show(w.heap.push o)[w.heap.size]?=_;simp
theorem vL.alloc{G:Gh}{σ:vD}{w:World}(h:yM G σ w)(o:Obj){i:Nat}(hi:σ.H i=none):vL G w (G.addρ i w.heap.size) (w.alloc o):=⟨λ_ _ e=>aZ ((h.dom i).2.1 hi).1 e,λ_ _ e=>e,λ_ _ e=>e,λb o' e=>World.cell?_alloc_lt w _ ⟨b,o',none⟩ (h.L_lt e),rfl,rfl,λ_ _ e=>.inl e,λ_ _ _ _ r=>r.alloc o,λ_ e=>e⟩
theorem yM.inj_up{G:Gh}{σ:vD}{w:World}(h:yM G σ w){i:Nat}(hd:σ.H i≠some .dead)(Z:yL):∀j k b,G.ρ j=some b->G.ρ k=some b->j=k\/up σ.H i Z j=some .dead\/up σ.H i Z k=some .dead:=by
 intro j k b hj hk;have hne:∀t,σ.H t=some .dead->up σ.H i Z t=some .dead:=λt ht=>by rw[xO _ _ (λe=>by subst e;exact hd ht)];exact ht
 exact(h.inj j k b hj hk).imp id (Or.imp (hne j) (hne k))
theorem yM.alloc{G:Gh}{σ:vD}{w:World}(h:yM G σ w)(o:Obj)(X:yL){i:Nat}(hi:σ.H i=none)(hn:vZ (G.addρ i w.heap.size) (w.alloc o) w.heap.size X):yM (G.addρ i w.heap.size) ⟨up σ.H i X,σ.own,σ.ns⟩ (w.alloc o):=by
 have hE:=vL.alloc h o hi;refine⟨?_,?_,?_,?_,?_,h.τns,?_,h.ownd,h.below.alloc h.base _,λk hk=>Nat.lt_of_lt_of_le (h.base k hk) (by simp)⟩
 ·intro j;by_cases hj:j=i
  ·subst hj;show iO (up G.ρ j _ j) (G.N j) (up σ.H j X j);rw[yR,yR];exact .some ((h.dom j).2.1 hi).2
  ·show iO (up G.ρ i _ j) (G.N j) (up σ.H i X j);rw[xO _ _ hj,xO _ _ hj];exact h.dom j
 ·obtain⟨N,hN⟩:=h.fin;refine⟨max N (i+1),λj hj=>?_⟩;show up σ.H i X j=none;rw[xO _ _ (by omega)];exact hN j (by omega)
 ·intro j k b hj hk;rcases nL hj with⟨e1,e2⟩|⟨_,hj⟩<;>rcases nL hk with⟨e3,e4⟩|⟨_,hk⟩;·omega
  ·have:=h.ρ_lt hk;omega
  ·have:=h.ρ_lt hj;omega
  ·have hne:∀t,G.ρ t=some b->t≠i:=λt ht e=>by subst e;rw[((h.dom t).2.1 hi).1]at ht;cases ht
   show j=k\/up σ.H i X j=_\/up σ.H i X k=_;rw[xO _ _ (hne j hj),xO _ _ (hne k hk)];exact h.inj j k b hj hk
 ·intro j b Y hj hY;rcases nL hj with⟨rfl,rfl⟩|⟨hne,hj⟩;·simp only[yR,Option.some.injEq]at hY;subst hY;exact⟨h.fnew,hn⟩
  ·rw[show(⟨up σ.H i X,σ.own,σ.ns⟩:vD).H j=σ.H j from xO _ _ hne]at hY;obtain⟨h1,h3⟩:=h.blk j b Y hj hY;exact⟨h1,vZ.mono hE (rJ w o (h.ρ_lt hj)) h3⟩
 ·intro b o' hL;replace hL:G.L b o':=hL;obtain⟨⟨v,hv⟩,h2⟩:=h.live b o' hL;refine⟨⟨v,(World.cell?_alloc_lt w _ _ (h.L_lt hL)).trans hv⟩,λj hj=>?_⟩;rcases nL hj with⟨_,e⟩|⟨_,hj⟩;·have:=h.L_lt hL;omega
  ·exact h2 j hj
 ·intro k hk;obtain⟨b,f,t,h1,h2|⟨h2,h3,h4,vs,T,h5,h6⟩⟩:=h.own k hk;·exact⟨b,f,t,h1,.inl h2⟩
  have hlt:b<w.heap.size:=(Array.getElem?_eq_some_iff.1 h5).1;refine⟨b,f,t,h1,.inr ⟨h2,λj hj=>?_,h4,vs,T,(rJ w o hlt).trans h5,h6⟩⟩;rcases nL hj with⟨_,e⟩|⟨_,hj⟩;·omega
  ·exact h3 j hj
theorem yM.alloc_cells{G:Gh}{σ:vD}{w:World}(h:yM G σ w)(cs:List AV)(vs:List Value)(T:TypeId)(hv:VL G w cs vs){i:Nat}(hi:σ.H i=none):yM (G.addρ i w.heap.size) ⟨up σ.H i (.cells cs),σ.own,σ.ns⟩ (w.alloc (.cells vs.toArray T)):=h.alloc _ (.cells cs) hi ⟨vs.toArray,T,uO w _,by simpa using fR.of (VL.mono (vL.alloc h _ hi) _ _ hv)⟩
theorem yM.alloc_row{G:Gh}{σ:vD}{w:World}(h:yM G σ w)(cs:List AV)(vs:List Value)(T:TypeId)(hv:VL G w cs vs){i:Nat}(hi:σ.H i=none):yM (G.addρ i w.heap.size) ⟨up σ.H i (.row cs),σ.own,σ.ns⟩ (w.alloc (.cells vs.toArray T)):=h.alloc _ (.row cs) hi ⟨vs.toArray,T,uO w _,by simpa using fR.of (VL.mono (vL.alloc h _ hi) _ _ hv)⟩
theorem yM.alloc_obj{G:Gh}{σ:vD}{w:World}(h:yM G σ w)(o:Obj)(ho:zDY o){i:Nat}(hi:σ.H i=none):yM (G.addρ i w.heap.size) ⟨up σ.H i (.obj o),σ.own,σ.ns⟩ (w.alloc o):=h.alloc _ (.obj o) hi ⟨uO w _,ho⟩
theorem vL.drew(G:Gh)(w:World):vL G w G w.drew:=⟨λ_ _ e=>e,λ_ _ e=>e,λ_ _ e=>e,λ_ _ _=>rfl,rfl,rfl,λ_ _ e=>.inl e,λ_ _ _ _ r=>r,λ_ e=>e⟩
theorem yM.drew{G:Gh}{σ:vD}{w:World}(h:yM G σ w):yM G σ w.drew:=by refine⟨h.dom,h.fin,h.inj,λi b X hi hX=>?_,h.live,h.τns,h.own,h.ownd,h.below.drew,h.base⟩;obtain⟨h1,h3⟩:=h.blk i b X hi hX;exact⟨h1,vZ.mono (vL.drew G w) rfl h3⟩
def vD.stamp(σ:vD)(use:Option Nat)(new:Bool):vD:=⟨σ.H,λk=>if k=σ.ns/\new=true then true else if use=some k then false else σ.own k,if new then σ.ns+1 else σ.ns⟩
theorem yM.own_lt{G:Gh}{σ:vD}{w:World}(h:yM G σ w){k:Nat}(hk:σ.own k=true):k<σ.ns:=by
 obtain⟨b,f,t,h1,_⟩:=h.own k hk;rcases Nat.lt_or_ge k σ.ns with e|e;·exact e
 ·rw[h.τns k e]at h1;cases h1
theorem yM.alloc_live{G:Gh}{σ:vD}{w:World}(h:yM G σ w)(cs:List AV)(vs rest:List Value)(T:TypeId)(hv:VL G w cs vs):let G':=((G.addL w.heap.size 0 vs.length).addτ σ.ns (w.heap.size,vs.length,vs.length+rest.length))
  let w':=w.alloc (.cells (vs++rest).toArray T)
  vL G w G' w'/\yM G' (σ.stamp none true) w'/\VC G' w' cs w.heap.size 0:=by
 intro G' w';have hcell:∀i(hi:i<vs.length),w'.cell? ⟨w.heap.size,i,none⟩=some vs[i]:=by intro i hi;show(w.alloc _).cell? _=_;rw[World.cell?_alloc_new];simp[List.getElem?_append_left hi,hi]
 have hE:vL G w G' w':=⟨λ_ _ e=>e,λ_ _ e=>aZ (h.τns _ (Nat.le_refl _)) e,λ_ _ e=>.inl e,λb o e=>World.cell?_alloc_lt w _ ⟨b,o,none⟩ (h.L_lt e),rfl,rfl,λ_ _ e=>e.elim .inl λq=>.inr (by rw[q.1];exact h.fnew),λ_ _ _ _ r=>r.alloc _,λ_ e=>e⟩;refine⟨hE,⟨h.dom,h.fin,h.inj,?_,?_,?_,?_,?_,h.below.alloc h.base _,λk hk=>Nat.lt_of_lt_of_le (h.base k hk) (show w.heap.size<=(w.alloc _).heap.size by simp)⟩,?_⟩
 ·intro i b X hi hX;obtain⟨h1,h3⟩:=h.blk i b X hi hX;exact⟨h1,vZ.mono hE (rJ w _ (h.ρ_lt hi)) h3⟩
 ·intro b o hL;rcases hL with hL|⟨rfl,_,hlt⟩
  ·obtain⟨⟨v,hv⟩,h2⟩:=h.live b o hL;exact⟨⟨v,(World.cell?_alloc_lt w _ _ (h.L_lt hL)).trans hv⟩,h2⟩
  ·exact⟨⟨_,hcell o hlt⟩,λi hi=>absurd (h.ρ_lt hi) (Nat.lt_irrefl _)⟩
 ·intro k hk;have hk':σ.ns+1<=k:=by simpa[vD.stamp]using hk
  show up G.τ σ.ns _ k=none;rw[xO _ _ (by omega)];exact h.τns k (by omega)
 ·intro k hk;by_cases e:k=σ.ns
  ·subst e;refine⟨w.heap.size,vs.length,vs.length+rest.length,yR _ _ _,.inr ⟨h.fnew,λi hi=>absurd (h.ρ_lt hi) (Nat.lt_irrefl _),λo ho _ hL=>?_,(vs++rest).toArray,T,uO w _,by simp⟩⟩;rcases hL with hL|⟨_,_,hlt⟩;·exact absurd (h.L_lt hL) (Nat.lt_irrefl _)
   ·omega
  ·have hk':σ.own k=true:=by simpa[vD.stamp,e]using hk
   obtain⟨b,f,t,h1,h2|⟨h2,h3,h4,vs',T',h5,h6⟩⟩:=h.own k hk';·exact⟨b,f,t,(xO _ _ e).trans h1,.inl h2⟩
   have hlt:b<w.heap.size:=(Array.getElem?_eq_some_iff.1 h5).1;refine⟨b,f,t,(xO _ _ e).trans h1,.inr ⟨h2,h3,λo ho ht hL=>?_,vs',T',(rJ w _ hlt).trans h5,h6⟩⟩;rcases hL with hL|⟨e,_,_⟩;·exact h4 o ho ht hL
   ·omega
 ·have key:∀k b f t,k≠σ.ns->(σ.stamp none true).own k=true->G'.τ k=some (b,f,t)->f<t->b<w.heap.size/\σ.own k=true/\G.τ k=some (b,f,t):=by
   intro k b f t e hk ht hft;have hk':σ.own k=true:=by simpa[vD.stamp,e]using hk
   have ht':G.τ k=some (b,f,t):=(xO _ _ e).symm.trans ht;obtain⟨b',f'',t'',q1,q2|⟨q2,q3,q4,vs',T',q5,q6⟩⟩:=h.own k hk';·rw[ht']at q1;cases q1;omega
   rw[ht']at q1;cases q1;exact⟨(Array.getElem?_eq_some_iff.1 q5).1,hk',ht'⟩
  intro k k' b f t f' t' hk hk' ht ht' hl hl';by_cases e:k=σ.ns<;>by_cases e':k'=σ.ns;·omega
  ·subst e;have:G'.τ σ.ns=some (w.heap.size,vs.length,vs.length+rest.length):=yR _ _ _;rw[this]at ht;cases ht;exact absurd (key k' _ _ _ e' hk' ht' hl').1 (Nat.lt_irrefl _)
  ·subst e';have:G'.τ σ.ns=some (w.heap.size,vs.length,vs.length+rest.length):=yR _ _ _;rw[this]at ht';cases ht';exact absurd (key k _ _ _ e hk ht hl).1 (Nat.lt_irrefl _)
  ·obtain⟨_,q1,q2⟩:=key k _ _ _ e hk ht hl;obtain⟨_,q3,q4⟩:=key k' _ _ _ e' hk' ht' hl';exact h.ownd k k' b f t f' t' q1 q3 q2 q4 hl hl'
 ·refine VC.of_cells cs vs _ _ (VL.mono hE _ _ hv) (λi hi=>.inr ⟨rfl,Nat.zero_le _,by omega⟩) (λi hi=>?_);simpa using hcell i hi
theorem vY.setRow{F:Nat->Prop}{a w:World}(h:vY F a w){g:Nat}(hg:¬F g)(cs:Array Value):vY F a (w.setRow g cs):=h.trans ⟨rfl,rfl,rfl,by simp[World.setRow],λk hk=>setRow_other w g k cs (λe=>hg (e▸hk))⟩
theorem fS(w:World)(g:Nat)(cs:Array Value):(w.setRow g cs).heap.size=w.heap.size:=by simp[World.setRow]
theorem lO(w:World)(g:Nat)(cs:Array Value){b o:Nat}(h:b≠g):(w.setRow g cs).cell? ⟨b,o,none⟩=w.cell? ⟨b,o,none⟩:=World.cell?_of_block (w:=w) (setRow_other w g b cs h)
theorem vL.setRow{G:Gh}{σ:vD}{w:World}(h:yM G σ w){i b:Nat}(hi:G.ρ i=some b)(cs:Array Value)(hs:∀vs T,w.heap[b]?=some (.cells vs T (0,0))->vs.size<=cs.size):vL G w G (w.setRow b cs):=⟨λ_ _ e=>e,λ_ _ e=>e,λ_ _ e=>e,λc o e=>lO w b cs (λec=>(h.live c o e).2 i (ec▸hi)),rfl,rfl,λ_ _ e=>.inl e,λj c m _ r=>by
 by_cases e:c=b
 ·subst e;obtain⟨vs,T,h1,h2⟩:=r;exact⟨cs,T,setRow_heap w c vs _ T _ h1,Nat.le_trans h2 (hs _ _ h1)⟩
 ·exact r.same (setRow_other w b c _ e),λ_ e=>e⟩
theorem yM.setRowX{G:Gh}{σ:vD}{w:World}(h:yM G σ w){i b:Nat}(hi:G.ρ i=some b)(hd:σ.H i≠some .dead)(vs:List Value)(hs:∀old T,w.heap[b]?=some (.cells old T (0,0))->old.size<=vs.toArray.size)(Z:yL)(hZ:vZ G (w.setRow b vs.toArray) b Z):yM G ⟨up σ.H i Z,σ.own,σ.ns⟩ (w.setRow b vs.toArray):=by
 have hE:=vL.setRow h hi vs.toArray hs;obtain⟨X,hX⟩:=h.has hi;have hBb:=(h.blk i b X hi hX).1;refine⟨?_,?_,h.inj_up hd Z,?_,?_,h.τns,?_,h.ownd,vY.setRow h.below hBb _,λk hk=>by rw[fS];exact h.base k hk⟩;·exact h.dom_up hi _
 ·obtain⟨N,hN⟩:=h.fin;refine⟨max N (i+1),λj hj=>?_⟩;show up σ.H i _ j=none;rw[xO _ _ (by omega)];exact hN j (by omega)
 ·intro j c Y hj hY;by_cases e:j=i
  ·subst e;rw[hi]at hj;cases hj;simp only[yR,Option.some.injEq]at hY;subst hY;exact⟨hBb,hZ⟩
  ·rw[show(⟨up σ.H i Z,σ.own,σ.ns⟩:vD).H j=σ.H j from xO _ _ e]at hY;obtain⟨h1,h3⟩:=h.blk j c Y hj hY;by_cases ec:c=b
   ·rcases h.inj j i b (ec▸hj) hi with q|q|q;·exact(e q).elim
    ·rw[q]at hY;cases hY;exact⟨h1,by show c<_;rw[fS];exact h3⟩
    ·exact(hd q).elim
   ·exact⟨h1,vZ.mono hE (setRow_other w b c _ ec) h3⟩
 ·intro c o hL;obtain⟨⟨v,hv⟩,h2⟩:=h.live c o hL;exact⟨⟨v,(hE.cell c o hL).trans hv⟩,h2⟩
 ·intro k hk;obtain⟨c,f,t,h1,h2|⟨h2,h3,h4,vs',T',h5,h6⟩⟩:=h.own k hk;·exact⟨c,f,t,h1,.inl h2⟩
  exact⟨c,f,t,h1,.inr ⟨h2,h3,h4,vs',T',(setRow_other w b c _ (λe=>h3 i (e▸hi))).trans h5,h6⟩⟩
theorem yM.setRow{G:Gh}{σ:vD}{w:World}(h:yM G σ w){i b:Nat}(hi:G.ρ i=some b)(hd:σ.H i≠some .dead)(vs:List Value)(cs:List AV){old:Array Value}{T:TypeId}(hs:old.size<=vs.length)(hb:w.heap[b]?=some (.cells old T (0,0)))(hv:fR G w cs vs):yM G ⟨up σ.H i (.cells cs),σ.own,σ.ns⟩ (w.setRow b vs.toArray):=have hs':∀old T,w.heap[b]?=some (.cells old T (0,0))->old.size<=vs.toArray.size:=λo' T' e=>by rw[hb]at e;cases e;simpa using hs
 h.setRowX hi hd vs hs' (.cells cs) ⟨vs.toArray,T,setRow_heap w b old _ T _ hb,by simpa using hv.imp (VL.mono (vL.setRow h hi vs.toArray hs') _)⟩
theorem yM.setRowR{G:Gh}{σ:vD}{w:World}(h:yM G σ w){i b:Nat}(hi:G.ρ i=some b)(hd:σ.H i≠some .dead)(vs:List Value)(cs:List AV){old:Array Value}{T:TypeId}(hs:old.size<=vs.length)(hb:w.heap[b]?=some (.cells old T (0,0)))(hv:fR G w cs vs):yM G ⟨up σ.H i (.row cs),σ.own,σ.ns⟩ (w.setRow b vs.toArray):=have hs':∀old T,w.heap[b]?=some (.cells old T (0,0))->old.size<=vs.toArray.size:=λo' T' e=>by rw[hb]at e;cases e;simpa using hs
 h.setRowX hi hd vs hs' (.row cs) ⟨vs.toArray,T,setRow_heap w b old _ T _ hb,by simpa using hv.imp (VL.mono (vL.setRow h hi vs.toArray hs') _)⟩
theorem yM.setObj{G:Gh}{σ:vD}{w:World}(h:yM G σ w){i b:Nat}(hi:G.ρ i=some b)(o o':Obj)(ho:zDY o')(hX:σ.H i=some (.obj o)):let w':World:={w with heap:=w.heap.setIfInBounds b o'}
  vL G w G w'/\yM G ⟨up σ.H i (.obj o'),σ.own,σ.ns⟩ w':=by
 intro w';have hlt:=h.ρ_lt hi;have hother:∀c,c≠b->w'.heap[c]?=w.heap[c]?:=λc hc=>by show(w.heap.setIfInBounds b o')[c]?=_;rw[Array.getElem?_setIfInBounds_ne (λe=>hc e.symm)]
 have hE:vL G w G w':=⟨λ_ _ e=>e,λ_ _ e=>e,λ_ _ e=>e,λc o e=>World.cell?_of_block (w:=w) (hother c (λec=>(h.live c o e).2 i (ec▸hi))),rfl,rfl,λ_ _ e=>.inl e,λj c m _ r=>by
   by_cases ec:c=b
   ·subst ec;obtain⟨q1,q2⟩:=(h.blk i c _ hi hX).2;obtain⟨vs,T,h1,_⟩:=r;rw[q1]at h1;cases h1;exact q2.elim
   ·exact r.same (hother c ec),λ_ e=>e⟩;have hBb:=(h.blk i b _ hi hX).1;have hd:σ.H i≠some .dead:=by rw[hX];simp
 refine⟨hE,?_,?_,h.inj_up hd _,?_,?_,h.τns,?_,h.ownd,h.below.trans ⟨rfl,rfl,rfl,by simp[w'],λk hk=>hother k (λe=>hBb (e▸hk))⟩,λk hk=>by simpa[w']using h.base k hk⟩;·exact h.dom_up hi _
 ·obtain⟨N,hN⟩:=h.fin;refine⟨max N (i+1),λj hj=>?_⟩;show up σ.H i _ j=none;rw[xO _ _ (by omega)];exact hN j (by omega)
 ·intro j c Y hj hY;by_cases e:j=i
  ·subst e;rw[hi]at hj;cases hj;simp only[yR,Option.some.injEq]at hY;subst hY;refine⟨hBb,?_,ho⟩;show(w.heap.setIfInBounds b o')[b]?=_;rw[Array.getElem?_setIfInBounds_self_of_lt hlt]
  ·rw[show(⟨up σ.H i (.obj o'),σ.own,σ.ns⟩:vD).H j=σ.H j from xO _ _ e]at hY;obtain⟨h1,h3⟩:=h.blk j c Y hj hY;by_cases ec:c=b
   ·rcases h.inj j i b (ec▸hj) hi with q|q|q;·exact(e q).elim
    ·rw[q]at hY;cases hY;have h4:c<w.heap.size:=h3;exact⟨h1,by show c<w'.heap.size;simpa[w']using h4⟩
    ·exact(hd q).elim
   ·exact⟨h1,vZ.mono hE (hother c ec) h3⟩
 ·intro c o hL;obtain⟨⟨v,hv⟩,h2⟩:=h.live c o hL;exact⟨⟨v,(hE.cell c o hL).trans hv⟩,h2⟩
 ·intro k hk;obtain⟨c,f,t,h1,h2|⟨h2,h3,h4,vs',T',h5,h6⟩⟩:=h.own k hk;·exact⟨c,f,t,h1,.inl h2⟩
  exact⟨c,f,t,h1,.inr ⟨h2,h3,h4,vs',T',(hother c (λe=>h3 i (e▸hi))).trans h5,h6⟩⟩
theorem yM.appendIn{G:Gh}{σ:vD}{w:World}(h:yM G σ w)(cs:List AV)(vs:List Value)(hv:VL G w cs vs){k b f t:Nat}(hk:σ.own k=true)(ht:G.τ k=some (b,f,t))(hft:f<t)(hroom:f+vs.length<=t){cur:Array Value}{T:TypeId}(hb:w.heap[b]?=some (.cells cur T (0,0))):let G':=(G.addL b f (f+vs.length)).addτ σ.ns (b,f+vs.length,t)
  let w':=w.setRow b (cur.toList.take f++vs++cur.toList.drop (f+vs.length)).toArray
  vL G w G' w'/\yM G' (σ.stamp (some k) true) w'/\VC G' w' cs b f:=by
 intro G' w';obtain⟨b',f',t',q1,q2|⟨hB,hρ,hL0,cur',T',hb',hsz⟩⟩:=h.own k hk;·rw[ht]at q1;cases q1;omega
 rw[ht]at q1;cases q1;rw[hb]at hb';cases hb';have hklt:=h.own_lt hk;have hw':w'.heap[b]?=some (.cells (cur.toList.take f++vs++cur.toList.drop (f+vs.length)).toArray T (0,0)):=setRow_heap w b cur _ T _ hb;have hlen:(cur.toList.take f++vs++cur.toList.drop (f+vs.length)).length=cur.size:=by simp;omega
 have hcell:∀i(hi:i<vs.length),w'.cell? ⟨b,f+i,none⟩=some vs[i]:=by intro i hi;simp only[World.cell?,hw'];simp only[Option.isSome_none,Bool.false_eq_true,if_false,List.getElem?_toArray];rw[List.append_assoc,List.getElem?_append_right (by simp;omega),List.getElem?_append_left (by simp;omega)];simp only[List.length_take,Array.length_toList];rw[show f+i-min f cur.size=i by omega];simp[hi]
 have hold:∀o,o<f->w'.cell? ⟨b,o,none⟩=w.cell? ⟨b,o,none⟩:=by intro o ho;simp only[World.cell?,hw',hb];simp only[Option.isSome_none,Bool.false_eq_true,if_false,List.getElem?_toArray];rw[List.append_assoc,List.getElem?_append_left (by simp;omega)];simp[ho]
 have hE:vL G w G' w':=by
  refine⟨λ_ _ e=>e,λ_ _ e=>aZ (h.τns _ (Nat.le_refl _)) e,λ_ _ e=>.inl e,λc o e=>?_,rfl,rfl,λ_ _ e=>e.elim .inl λq=>.inr (by rw[q.1];exact hB),λi c m hi r=>r.same (setRow_other w b c _ (λec=>hρ i (ec▸hi))),λ_ e=>e⟩;by_cases hc:c=b
  ·subst hc;rcases Nat.lt_or_ge o f with ho|ho;·exact hold o ho
   ·rcases Nat.lt_or_ge o t with ho2|ho2;·exact absurd e (hL0 o ho ho2)
    ·simp only[World.cell?,hw',hb];simp only[Option.isSome_none,Bool.false_eq_true,if_false,List.getElem?_toArray];rw[List.getElem?_append_right (by simp;omega)];simp only[List.length_append,List.length_take,Array.length_toList,List.getElem?_drop];rw[show f+vs.length+(o-(min f cur.size+vs.length))=o by omega];simp
  ·exact lO w b _ hc
 have hblk:∀c,c≠b->w'.heap[c]?=w.heap[c]?:=λc hc=>setRow_other w b c _ hc;refine⟨hE,⟨h.dom,h.fin,h.inj,?_,?_,?_,?_,?_,vY.setRow h.below hB _,λk hk=>by rw[fS];exact h.base k hk⟩,?_⟩
 ·intro i c X hi hX;obtain⟨h1,h3⟩:=h.blk i c X hi hX;exact⟨h1,vZ.mono hE (hblk c (λe=>hρ i (e▸hi))) h3⟩
 ·intro c o hL;rcases hL with hL|⟨rfl,h1,h2⟩;·obtain⟨⟨v,hv⟩,h2⟩:=h.live c o hL;exact⟨⟨v,(hE.cell c o hL).trans hv⟩,h2⟩
  ·have:=hcell (o-f) (by omega);rw[show f+(o-f)=o by omega]at this;exact⟨⟨_,this⟩,hρ⟩
 ·intro j hj;have hj':σ.ns+1<=j:=by simpa[vD.stamp]using hj
  show up G.τ σ.ns _ j=none;rw[xO _ _ (by omega)];exact h.τns j (by omega)
 ·intro j hj;by_cases e:j=σ.ns
  ·subst e;refine⟨b,f+vs.length,t,yR _ _ _,.inr ⟨hB,hρ,λo ho ho2 hL=>?_,_,T,hw',by rw[List.size_toArray,hlen];exact hsz⟩⟩;rcases hL with hL|⟨_,_,hlt⟩;·exact hL0 o (by omega) ho2 hL
   ·omega
  ·have hj':j≠k/\σ.own j=true:=by
    by_cases ej:j=k;·subst ej;simp[vD.stamp,e]at hj
    ·have ek:¬k=j:=λx=>ej x.symm;exact⟨ej,by simpa[vD.stamp,e,ek]using hj⟩
   obtain⟨c,f',t',h1,h2'⟩:=h.own j hj'.2;rcases h2' with h2'|⟨h2,h3,h4,vs',T',h5,h6⟩;·exact⟨c,f',t',(xO _ _ e).trans h1,.inl h2'⟩
   by_cases hcb:c=b
   ·have h5b:w.heap[b]?=some (.cells vs' T' (0,0)):=hcb▸h5;rw[hb]at h5b;cases h5b;have hemp:t'<=f':=by
     rcases Nat.lt_or_ge f' t' with hl|hl;·exact absurd (h.ownd j k c f' t' f t hj'.2 hk h1 (hcb▸ht) hl hft) hj'.1
     ·exact hl
    exact⟨c,f',t',(xO _ _ e).trans h1,.inr ⟨h2,h3,λo ho hlt _=>by omega,_,T,by rw[hcb];exact hw',by rw[List.size_toArray,hlen];exact h6⟩⟩
   refine⟨c,f',t',(xO _ _ e).trans h1,.inr ⟨h2,h3,λo ho hlt hL=>?_,vs',T',(hblk c hcb).trans h5,h6⟩⟩;rcases hL with hL|⟨e',_,_⟩;·exact h4 o ho hlt hL
   ·exact hcb e'
 ·have key:∀j c f' t',j≠σ.ns->(σ.stamp (some k) true).own j=true->G'.τ j=some (c,f',t')->f'<t'->c≠b/\σ.own j=true/\G.τ j=some (c,f',t'):=by
   intro j c f' t' e hj ht' hl;have hj':j≠k/\σ.own j=true:=by
    by_cases ej:j=k;·subst ej;simp[vD.stamp,e]at hj
    ·have ek:¬k=j:=λx=>ej x.symm;exact⟨ej,by simpa[vD.stamp,e,ek]using hj⟩
   have ht2:G.τ j=some (c,f',t'):=(xO _ _ e).symm.trans ht';refine⟨?_,hj'.2,ht2⟩;rintro rfl;exact hj'.1 (h.ownd j k c f' t' f t hj'.2 hk ht2 ht hl hft)
  intro j j' c f1 t1 f2 t2 hj hj' h1 h2 l1 l2;have hnew:G'.τ σ.ns=some (b,f+vs.length,t):=yR _ _ _;by_cases e:j=σ.ns<;>by_cases e':j'=σ.ns;·omega
  ·subst e;rw[hnew]at h1;cases h1;exact absurd rfl (key j' _ _ _ e' hj' h2 l2).1
  ·subst e';rw[hnew]at h2;cases h2;exact absurd rfl (key j _ _ _ e hj h1 l1).1
  ·obtain⟨_,q1,q2⟩:=key j _ _ _ e hj h1 l1;obtain⟨_,q3,q4⟩:=key j' _ _ _ e' hj' h2 l2;exact h.ownd j j' c f1 t1 f2 t2 q1 q3 q2 q4 l1 l2
 ·exact VC.of_cells cs vs _ _ (VL.mono hE _ _ hv) (λi hi=>.inr ⟨rfl,by omega,by omega⟩) hcell
theorem yM.alloc_full{G:Gh}{σ:vD}{w:World}(h:yM G σ w)(cs:List AV)(vs:List Value)(T:TypeId)(hv:VL G w cs vs):let G':=G.addL w.heap.size 0 vs.length
  let w':=w.alloc (.cells vs.toArray T)
  vL G w G' w'/\yM G' σ w'/\VC G' w' cs w.heap.size 0:=by
 intro G' w';have hcell:∀i(hi:i<vs.length),w'.cell? ⟨w.heap.size,i,none⟩=some vs[i]:=by intro i hi;show(w.alloc _).cell? _=_;rw[World.cell?_alloc_new];simp[hi]
 have hE:vL G w G' w':=⟨λ_ _ e=>e,λ_ _ e=>e,λ_ _ e=>.inl e,λb o e=>World.cell?_alloc_lt w _ ⟨b,o,none⟩ (h.L_lt e),rfl,rfl,λ_ _ e=>e.elim .inl λq=>.inr (by rw[q.1];exact h.fnew),λ_ _ _ _ r=>r.alloc _,λ_ e=>e⟩;refine⟨hE,⟨h.dom,h.fin,h.inj,?_,?_,h.τns,?_,h.ownd,h.below.alloc h.base _,λk hk=>Nat.lt_of_lt_of_le (h.base k hk) (show w.heap.size<=(w.alloc _).heap.size by simp)⟩,?_⟩
 ·intro i b X hi hX;obtain⟨h1,h3⟩:=h.blk i b X hi hX;exact⟨h1,vZ.mono hE (rJ w _ (h.ρ_lt hi)) h3⟩
 ·intro b o hL;rcases hL with hL|⟨rfl,_,hlt⟩
  ·obtain⟨⟨v,hv⟩,h2⟩:=h.live b o hL;exact⟨⟨v,(World.cell?_alloc_lt w _ _ (h.L_lt hL)).trans hv⟩,h2⟩
  ·exact⟨⟨_,hcell o (by omega)⟩,λi hi=>absurd (h.ρ_lt hi) (Nat.lt_irrefl _)⟩
 ·intro k hk;obtain⟨b,f,t,h1,h2|⟨h2,h3,h4,vs',T',h5,h6⟩⟩:=h.own k hk;·exact⟨b,f,t,h1,.inl h2⟩
  have hlt:b<w.heap.size:=(Array.getElem?_eq_some_iff.1 h5).1;refine⟨b,f,t,h1,.inr ⟨h2,h3,λo ho ht hL=>?_,vs',T',(rJ w _ hlt).trans h5,h6⟩⟩;rcases hL with hL|⟨e,_,_⟩;·exact h4 o ho ht hL
  ·omega
 ·refine VC.of_cells cs vs _ _ (VL.mono hE _ _ hv) (λi hi=>.inr ⟨rfl,Nat.zero_le _,by omega⟩) (λi hi=>?_);simpa using hcell i hi
theorem yM.drop{G:Gh}{σ:vD}{w:World}(h:yM G σ w)(own':Nat->Bool)(ho:∀k,own' k=true->σ.own k=true):yM G ⟨σ.H,own',σ.ns⟩ w:=⟨h.dom,h.fin,h.inj,h.blk,h.live,h.τns,λk hk=>h.own k (ho k hk),λk k' b f t f' t' hk hk'=>h.ownd k k' b f t f' t' (ho k hk) (ho k' hk'),h.below,h.base⟩
structure LA where
 ev:Operand->AV
 rd:List (Nat×yL):=[]wr:List (Nat×yL×yL):=[]al:List (Nat×yL):=[]use:List Nat:=[]ns:Nat:=0
 new:Nat:=0
 lo:Nat:=0
 hi:Nat:=0
 st:Bool:=false
 rc:List (Nat×Nat×AV):=[]kp:List (Nat×Nat):=[]v:AV
def pV:yL->Nat->Option AV|.cells cs,k=>cs[k]?|_,_=>none
def fO(H:Nat->Option yL):List (Nat×yL)->Nat->Option yL|[]=>H|p::l=>up (fO H l) p.1 p.2
def vD.stamps(σ:vD)(use:List Nat)(new:Nat):vD:=⟨σ.H,λk=>if σ.ns<=k/\k<σ.ns+new then true else if k∈use then false else σ.own k,σ.ns+new⟩
def LA.app(la:LA)(σ:vD):vD:=(vD.mk (fO (fO σ.H (la.wr.map λp=>(p.1,p.2.2))) la.al) σ.own σ.ns).stamps la.use la.new
structure LA.can(la:LA)(σ:vD):Prop where
 rd:∀i X,(i,X)∈la.rd->σ.H i=some X
 wr:∀i X Y,(i,X,Y)∈la.wr->σ.H i=some X
 al:∀i X,(i,X)∈la.al->σ.H i=none
 use:∀k,k∈la.use->σ.own k=true
 ns:la.use≠[]\/la.new≠0\/la.st=true->la.ns=σ.ns
 hole:∀i,la.lo<=i->i<la.hi->σ.H i=none
 rc:∀i k v,(i,k,v)∈la.rc->∃X,σ.H i=some X/\pV X k=some v
 kp:∀i k X Y,(i,k)∈la.kp->(i,X,Y)∈la.wr->pV X k=pV Y k
def wN(P:Program)(o:Oper)(la:LA):Prop:=∀(G:Gh)(σ:vD)(w:World)(a:Act)(K:Act->World->Prop)(Q:Exit->Act->World->Prop),yM G σ w->(∀x∈o.op.operands,V G w (la.ev x) (a.eval x))->la.can σ->(∀(u:Value)(G':Gh)(w':World),vL G w G' w'->yM G' (la.app σ) w'->V G' w' la.v u->K (a.put o.dst u) w')->o.wp P a w K Q
theorem vD.stamps_zero(σ:vD):σ.stamps [] 0=σ:=by cases σ;simp only[vD.stamps,Nat.add_zero,List.not_mem_nil,if_false];congr 1;funext k;rw[if_neg (by omega)]
theorem wN.value{P:Program}{o:Oper}{la:LA}(h:∀(G:Gh)(σ:vD)(w:World)(a:Act),yM G σ w->(∀x∈o.op.operands,V G w (la.ev x) (a.eval x))->la.can σ->∃u w' G',(execOp a.eval o).run P w=.ok (.value u) w'/\vL G w G' w'/\yM G' (la.app σ) w'/\V G' w' la.v u):wN P o la:=by intro G σ w a K Q hR hx hc hK;obtain⟨u,w',G',hr,hE,hR',hv⟩:=h G σ w a hR hx hc;unfold Oper.wp;rw[hr];exact hK u G' w' hE hR' hv
theorem wN.skip{P:Program}{o:Oper}{la:LA}(hv:la.v=.val undef)(h:∀(G:Gh)(σ:vD)(w:World)(a:Act),yM G σ w->(∀x∈o.op.operands,V G w (la.ev x) (a.eval x))->la.can σ->∃w' G',(execOp a.eval o).run P w=.ok .skip w'/\vL G w G' w'/\yM G' (la.app σ) w'):wN P o la:=by intro G σ w a K Q hR hx hc hK;obtain⟨w',G',hr,hE,hR'⟩:=h G σ w a hR hx hc;unfold Oper.wp;rw[hr];exact hK undef G' w' hE hR' (by rw[hv];simp[V])
theorem wN.pure{P:Program}{o:Oper}{ev:Operand->AV}{v:AV}(h:∀(G:Gh)(w:World)(a:Act),(∀x∈o.op.operands,V G w (ev x) (a.eval x))->∃u,(execOp a.eval o).run P w=.ok (.value u) w/\V G w v u):wN P o {ev:=ev,v:=v}:=by refine wN.value λG σ w a hR hx _=>?_;obtain⟨u,hr,hv⟩:=h G w a hx;refine⟨u,w,G,hr,vL.refl G w,?_,hv⟩;show yM G ((vD.mk σ.H σ.own σ.ns).stamps [] 0) w;rw[vD.stamps_zero];exact hR
theorem wN.reads{P:Program}{o:Oper}{ev:Operand->AV}{v:AV}{rd:List (Nat×yL)}(h:∀(G:Gh)(σ:vD)(w:World)(a:Act),yM G σ w->(∀x∈o.op.operands,V G w (ev x) (a.eval x))->(∀i X,(i,X)∈rd->σ.H i=some X)->∃u,(execOp a.eval o).run P w=.ok (.value u) w/\V G w v u):wN P o {ev:=ev,rd:=rd,v:=v}:=by refine wN.value λG σ w a hR hx hc=>?_;obtain⟨u,hr,hv⟩:=h G σ w a hR hx hc.rd;refine⟨u,w,G,hr,vL.refl G w,?_,hv⟩;show yM G ((vD.mk σ.H σ.own σ.ns).stamps [] 0) w;rw[vD.stamps_zero];exact hR
def ofV:Nat->Value->AV|0,v=>.val v|n+1,v=>match v with|.slice none 0 0=>.sl [] 0 .nl|.agg cs=>.agg (cs.toList.map (ofV n))|.tuple cs=>.tup (cs.toList.map (ofV n))|.func (.func f) fs cs=>.clo f (fs.toList.map (ofV n)) (cs.toList.map (ofV n))|v=>.val v
theorem VL.map_ofV{G:Gh}{w:World}{f:Value->AV}(h:∀v,V G w (f v) v):∀vs:List Value,VL G w (vs.map f) vs|[]=>by simp[VL]|v::vs=>by simp only[List.map_cons,VL];exact⟨h v,VL.map_ofV h vs⟩
theorem V.ofV{G:Gh}{w:World}:∀(n:Nat)(v:Value),V G w (ofV n v) v
 |0,v=>by simp[Ab.ofV,V]|n+1,v=>by
  simp only[Ab.ofV];split;·simp[V,Own.nil,aB]
  ·rename_i cs;simp only[V];exact⟨cs.toList,by simp,VL.map_ofV (V.ofV n) _⟩
  ·rename_i cs;simp only[V];exact⟨cs.toList,by simp,VL.map_ofV (V.ofV n) _⟩
  ·rename_i f fs cs;simp only[V];exact⟨fs.toList,cs.toList,by simp,VL.map_ofV (V.ofV n) _,VL.map_ofV (V.ofV n) _⟩
  ·simp[V]
def eget:List AV->Nat->AV|[],_=>.val undef|a::_,0=>a|_::r,n+1=>eget r n
def aev(env:List AV):Operand->AV|.tmp t=>eget env t|.const v=>ofV 8 v|.global g=>.val (.pointer (some ⟨g,0,none⟩))|.func f=>.clo f [] []
theorem V.eget{G:Gh}{w:World}:∀(env:List AV)(us:List Value),VL G w env us->∀t,V G w (eget env t) (us.getD t undef)|[],[],_,t=>by simp[Ab.eget,V]|a::as0,u::us,h,0=>by simp only[VL]at h;simpa[Ab.eget]using h.1|a::as0,u::us,h,n+1=>by simp only[VL]at h;simpa[Ab.eget]using V.eget as0 us h.2 n|[],_::_,h,_=>by simp only[VL]at h|_::_,[],h,_=>by simp only[VL]at h
theorem V.aev{G:Gh}{w:World}{env:List AV}{a:Act}(h:VL G w env a.tmps.toList):∀x,V G w (aev env x) (a.eval x)|.tmp t=>by have:=V.eget env _ h t;simpa[Ab.aev,Act.eval]using this|.const v=>by simpa[Ab.aev,Act.eval]using V.ofV 8 v|.global g=>by simp[Ab.aev,Act.eval,V]|.func f=>by simp only[Ab.aev,Act.eval,V];exact⟨[],[],rfl,by simp[VL],by simp[VL]⟩
def rR:AV->List AV|.agg cs=>cs|v=>[v]
def AV.one:AV->Bool|.agg _|.tup _=>false|.val v=>v.oneCell'|_=>true
def AV.sound:AV->Bool|.agg cs=>cs.all AV.one|v=>v.one
theorem V.one{G:Gh}{w:World}{a:AV}{u:Value}(h:V G w a u)(ho:a.one=true):u.oneCell'=true:=by
 cases a<;>simp only[V]at h;case val v=>subst h;exact ho
 case agg=>cases ho
 case tup=>cases ho
 case sl es n o=>
  obtain⟨cap,_,h|⟨b,off,rfl,_⟩⟩:=h;·rw[h.2.2.2.1];rfl
  ·rfl
 case ip=>obtain⟨b,off,rfl,_⟩:=h;rfl
 case mp=>obtain⟨b,_,rfl⟩:=h;rfl
 case ms=>rcases h with⟨b,cap,_,_,o,rfl,_⟩|⟨_,_,p,rfl⟩<;>rfl
 case obj=>obtain⟨b,_,rfl⟩:=h;rfl
 case clo=>obtain⟨l,r,rfl,_⟩:=h;rfl
theorem zMS{u:Value}(h:u.oneCell'=true):u.cells=#[u]:=by cases u<;>first|rfl|cases h
theorem VL.all_one{G:Gh}{w:World}:∀(as0:List AV)(us:List Value),VL G w as0 us->as0.all AV.one=true->∀u∈us,u.oneCell'=true
 |[],[],_,_=>by simp|a::as0,u::us,h,ho=>by
  simp only[VL]at h;simp only[List.all_cons,Bool.and_eq_true]at ho;intro x hx;rcases List.mem_cons.1 hx with rfl|hx;·exact h.1.one ho.1
  ·exact VL.all_one as0 us h.2 ho.2 x hx|[],_::_,h,_=>by simp only[VL]at h|_::_,[],h,_=>by simp only[VL]at h
theorem V.cells{G:Gh}{w:World}{a:AV}{u:Value}(h:V G w a u)(ho:a.sound=true):VL G w (rR a) u.cells.toList/\∀x∈u.cells.toList,x.oneCell'=true:=by cases a with|agg cs=>simp only[V]at h;obtain⟨vs,rfl,hl⟩:=h;exact⟨by simpa[rR,Value.cells]using hl,by simpa[Value.cells]using VL.all_one _ _ hl ho⟩|_=>have h1:=h.one ho;rw[zMS h1];simp only[rR,VL];exact⟨⟨h,trivial⟩,by simpa using h1⟩
def zIR:TypeDesc->Bool|.struct _|.array _ _=>true|_=>false
def tsz(P:Program)(t:TypeId):Option (Bool×Nat):=match P.underlying t,P.info? t with|some d,some i=>some (zIR d,i.size)|_,_=>none
theorem oY{P:Program}{t:TypeId}{d:TypeDesc}(h:P.underlying t=some d)(w:World):(isAgg t).run P w=.ok (zIR d) w:=by unfold isAgg;simp only[Sem.run_bind,run_underlying h,Result.andThen_ok];cases d<;>rfl
theorem wF{P:Program}{t:TypeId}{i:TypeInfo}(h:P.info? t=some i)(w:World):(sizeOf t).run P w=.ok i.size w:=by simp[sizeOf,typeInfo,h]
theorem rT{P:Program}{t:TypeId}{i:TypeInfo}{z:Value}(h:P.info? t=some i)(hz:i.zero=some z)(w:World):(zeroValue t).run P w=.ok z w:=by simp[zeroValue,typeInfo,h,hz]
def pE(q:Bool×Nat)(cs:List AV):Option AV:=match q with|(true,n)=>bif Nat.ble n cs.length then some (.agg (cs.take n))else none|(false,_)=>match cs with|c::_=>some c|[]=>none
def splice(cs:List AV)(off:Nat)(news:List AV):List AV:=cs.take off++news++cs.drop (off+news.length)
theorem fU:∀(l:List Value)(off j:Nat)(cs:Array Value),off+j+l.length<=cs.size->((l.zipIdx j).foldl (λcs(x:Value×Nat)=>cs.setIfInBounds (off+x.2) x.1) cs).toList=cs.toList.take (off+j)++l++cs.toList.drop (off+j+l.length)|[],off,j,cs,_=>by simp|v::l,off,j,cs,h=>by simp only[List.zipIdx_cons,List.foldl_cons];rw[fU l off (j+1) _ (by simp at h⊢;omega)];have e:=list_seg_step cs.toList (off+j) v l (by simp at h⊢;omega);simpa[Array.toList_setIfInBounds,Nat.add_assoc]using e
def o8(place:Nat->Option (Nat×Nat))(cells:List AV):List (Nat×AV)->Option (List AV)|[]=>some cells|(i,v)::rest=>match place i with|none=>none|some (off,size)=>bif v.sound&&Nat.beq (rR v).length size&&Nat.ble (off+size) cells.length then o8 place (splice cells off (rR v)) rest else none
theorem VL.splice{G:Gh}{w:World}{cs:List AV}{vs:List Value}{news:List AV}{nvs:List Value}(h:VL G w cs vs)(hn:VL G w news nvs)(off:Nat):VL G w (splice cs off news) (vs.take off++nvs++vs.drop (off+nvs.length)):=by unfold Ab.splice;rw[VL.length _ _ hn];exact VL.append _ _ _ _ (VL.append _ _ _ _ (VL.take _ _ _ h) hn) (VL.drop _ _ _ h)
theorem fR.splice{G:Gh}{w:World}{cs:List AV}{l:List Value}{news:List AV}{nvs:List Value}(h:fR G w cs l)(hn:VL G w news nvs)(off:Nat)(hb:off+news.length<=cs.length):fR G w (Ab.splice cs off news) (l.take off++nvs++l.drop (off+nvs.length)):=by obtain⟨us,rest,rfl,hv⟩:=h;have h1:=VL.length _ _ hv;have h2:=VL.length _ _ hn;refine⟨us.take off++nvs++us.drop (off+nvs.length),rest,?_,VL.splice hv hn off⟩;rw[List.take_append_of_le_length (by omega),List.drop_append_of_le_length (by omega)];simp only[List.append_assoc]
inductive VP(G:Gh)(w:World):List (Nat×AV)->List (Nat×Value)->Prop|nil:VP G w [] []|cons{i:Nat}{a:AV}{u:Value}{as0:List (Nat×AV)}{us:List (Nat×Value)}:V G w a u->VP G w as0 us->VP G w ((i,a)::as0) ((i,u)::us)
theorem G6{G:Gh}{w:World}{place:Nat->Option (Nat×Nat)}:∀(parts:List (Nat×AV))(parts':List (Nat×Value))(cells:List AV)(cells':Array Value)(r:List AV),VP G w parts parts'->VL G w cells cells'.toList->o8 place cells parts=some r->∃r',Instr.fill place cells' parts'=some r'/\VL G w r r'.toList|[],_,cells,cells',r,hp,hc,h=>by cases hp;simp only[o8,Option.some.injEq]at h;subst h;exact⟨cells',rfl,hc⟩|(i,a)::rest,_,cells,cells',r,hp,hc,h=>by cases hp with|cons ha hr=>rename_i u us;simp only[o8]at h;cases hpl:place i with|none=>simp[hpl]at h|some q=>obtain⟨off,size⟩:=q;simp only[hpl]at h;cases hcond:(a.sound&&Nat.beq (rR a).length size&&Nat.ble (off+size) cells.length)with|false=>simp[hcond]at h|true=>
 simp only[hcond,cond_true]at h;simp only[Bool.and_eq_true,Nat.ble_eq]at hcond;obtain⟨⟨h1,h2⟩,h3⟩:=hcond;replace h2:=Nat.eq_of_beq_eq_true h2;obtain⟨hcs,_⟩:=ha.cells h1;have l1:=VL.length _ _ hcs;have l2:=VL.length _ _ hc;have hlen:u.cells.size=size:=by rw[<-h2,<-l1];simp
 have hsz:cells'.size=cells.length:=by rw[<-l2];simp
 have hfold:(u.cells.zipIdx.foldl (λcs(x:Value×Nat)=>cs.setIfInBounds (off+x.2) x.1) cells').toList=cells'.toList.take off++u.cells.toList++cells'.toList.drop (off+u.cells.toList.length):=by have:=fU u.cells.toList off 0 cells' (by simp;omega);simp only[Nat.add_zero]at this;rw[<-this,<-Array.foldl_toList,Array.toList_zipIdx]
 have hvl:=VL.splice hc hcs off;rw[<-hfold]at hvl;obtain⟨r',hr',hv⟩:=G6 rest us _ _ r hr hvl h;refine⟨r',?_,hv⟩;simp only[Instr.fill,hpl];rw[if_neg];·exact hr'
 ·simp[hlen,hsz,h3]
def zEz(P:Program)(t:TypeId):Option (Nat->Option (Nat×Nat)):=match P.underlying t with|some (.array _ e)=>(P.info? e).map λie=>λi=>some (i*ie.size,ie.size)|some (.struct fields)=>(fields.toList.mapM (λf=>(P.info? f.type).map λi=>(f.offset,i.size))).map λplaces=>(places.toArray[·]?)|_=>none
def zIS(P:Program)(t:TypeId)(parts:List (Nat×AV)):Option AV:=match P.info? t,zEz P t with
 |some it,some pl=>match it.zero with|some z=>(o8 pl (z.cells.toList.map (ofV 8)) parts).map .agg|none=>none
 |_,_=>none
theorem zMT{G:Gh}{w:World}{P:Program}{t:TypeId}{parts:List (Nat×AV)}{parts':Array (Nat×Value)}{r:AV}(hp:VP G w parts parts'.toList)(h:zIS P t parts=some r):∃u,(Instr.build t parts').run P w=.ok u w/\V G w r u:=by unfold zIS at h;cases hi:P.info? t with|none=>simp[hi]at h|some it=>cases hpl:zEz P t with|none=>simp[hi,hpl]at h|some pl=>simp only[hi,hpl]at h;cases hz:it.zero with|none=>simp[hz]at h|some z=>simp only[hz,Option.map_eq_some_iff]at h;obtain⟨cs,hf,rfl⟩:=h;obtain⟨r',hr',hv⟩:=G6 parts parts'.toList _ z.cells cs hp (VL.map_ofV (V.ofV 8) _) hf;refine⟨.agg r',run_build w t parts' r' ?_,by simp only[V];exact⟨r'.toList,by simp,hv⟩⟩;unfold zEz at hpl;unfold Program.built;cases hu:P.underlying t with|none=>simp[hu]at hpl|some d=>
 simp only[hu]at hpl;cases d<;>simp only[reduceCtorEq]at hpl;case array n e=>cases hie:P.info? e with|none=>simp[hie]at hpl|some ie=>simp only[hie,Option.map_some,Option.some.injEq]at hpl;subst hpl;simp[hi,hz,hie,hr']
 case struct fs=>cases hm:fs.toList.mapM (λf=>(P.info? f.type).map λi=>(f.offset,i.size))with|none=>simp[hm]at hpl|some pls=>simp only[hm,Option.map_some,Option.some.injEq]at hpl;subst hpl;simp only[hi,hz,hm];exact hr'
def yAV(op:BinOp)(x y:AV):Option AV:=match x,y with
 |.val (.int k a),.val (.int k' b)=>if k=k' then match op with|.add=>some (.val (.int k (k.wrap (a+b))))|.sub=>some (.val (.int k (k.wrap (a-b))))|.mul=>some (.val (.int k (k.wrap (a*b))))|.eql=>some (.val (.bool (a==b)))|.neq=>some (.val (.bool (a !=b)))|.lss=>some (.val (.bool (a<b)))|.leq=>some (.val (.bool (a<=b)))|.gtr=>some (.val (.bool (a>b)))|.geq=>some (.val (.bool (a>=b)))|.and=>some (.val (.int k (k.wrap ((BitVec.ofInt k.bits a&&&BitVec.ofInt k.bits b).toNat:Nat))))|.or=>some (.val (.int k (k.wrap ((BitVec.ofInt k.bits a|||BitVec.ofInt k.bits b).toNat:Nat))))|.quo=>if b=0 then none else some (.val (.int k (k.wrap (a.tdiv b))))|.rem=>if b=0 then none else some (.val (.int k (a.tmod b)))|.shl=>if b<0 then none else some (.val (.int k (k.wrap (a*2^(min b.toNat k.bits)))))|.shr=>if b<0 then none else some (.val (.int k (a.fdiv (2^(min b.toNat k.bits)))))|_=>none else match op with|.shl=>if b<0 then none else some (.val (.int k (k.wrap (a*2^(min b.toNat k.bits)))))|.shr=>if b<0 then none else some (.val (.int k (a.fdiv (2^(min b.toNat k.bits)))))|_=>none
 |.val (.string a),.val (.string b)=>match op with|.add=>if a.size+b.size<=4294967296 then some (.val (.string (a++b)))else none|.eql=>some (.val (.bool (a.toList==b.toList)))|.neq=>some (.val (.bool (!(a.toList==b.toList))))|_=>none
 |_,_=>none
def zTK(d:TypeDesc)(x y:AV):Option Bool:=match d,x,y with|.bool,.val (.bool a),.val (.bool b)=>some (a==b)|.pointer _,.mp _ _,.val (.pointer none)=>some false|.pointer _,.ip _,.val (.pointer none)=>some false|.pointer _,.val (.pointer none),.val (.pointer none)=>some true|.slice _,.sl _ _ .nl,.sl _ _ .nl=>some true|.slice _,.sl _ _ .nn,.sl _ _ .nl=>some false|.slice _,.ms _ _ _ (_+1) _,.sl _ _ .nl=>some false|.func _ _ _,.clo _ _ _,.val .nilFunc=>some false|.func _ _ _,.val .nilFunc,.val .nilFunc=>some true|_,_,_=>none
def zEy(P:Program)(op:BinOp)(t:TypeId)(x y:AV):Option AV:=match yAV op x y with|some v=>some v|none=>match P.underlying t,op with|some d,.eql=>(zTK d x y).map λb=>.val (.bool b)|some d,.neq=>(zTK d x y).map λb=>.val (.bool (!b))|_,_=>none
theorem rL{P:Program}{t:TypeId}{w:World}{x y:Value}{b:Bool}(he:∀n,(Op.equalIn (n+1) t x y).run P w=.ok b w):(Op.equal t x y).run P w=.ok b w:=he 9999
theorem sT{P:Program}{G:Gh}{w:World}{m:Sem Value}{X:Value}(h:m.run P w=.ok X w):∃q,m.run P w=.ok q w/\V G w (.val X) q:=⟨X,h,by simp only[V]⟩
theorem zKY{P:Program}{t:TypeId}{d:TypeDesc}{G:Gh}{w:World}{x y:AV}{u v:Value}{b:Bool}(h:P.underlying t=some d)(hu:V G w x u)(hv:V G w y v)(he:zTK d x y=some b):(Op.equal t u v).run P w=.ok b w/\(∀op a c,eqGuard op t a c u v=pure ())/\binOp .eql t u v=(do pure (.bool (<-Op.equal t u v)))/\binOp .neq t u v=(do pure (.bool (!(<-Op.equal t u v)))):=by
 unfold zTK at he;split at he<;>simp only[Option.some.injEq,reduceCtorEq]at he<;>subst he<;>simp only[V]at hu hv
 ·subst hu hv;exact⟨rL λn=>by simp[Op.equalIn,run_underlying h],λop a c=>eqGuard_at_bool op t a c _ _,rfl,rfl⟩
 ·obtain⟨q,_,rfl⟩:=hu;subst hv;exact⟨rL λn=>by simp[Op.equalIn,run_underlying h],λop a c=>eqGuard_at_pointer op t a c _ _,rfl,rfl⟩
 ·obtain⟨q,_,rfl,_⟩:=hu;subst hv;exact⟨rL λn=>by simp[Op.equalIn,run_underlying h],λop a c=>eqGuard_at_pointer op t a c _ _,rfl,rfl⟩
 ·subst hu hv;exact⟨rL λn=>by simp[Op.equalIn,run_underlying h],λop a c=>eqGuard_at_pointer op t a c _ _,rfl,rfl⟩
 ·obtain⟨c1,_,⟨_,_,_,e1,f1⟩|⟨_,_,_,_,hf⟩⟩:=hu
  ·obtain⟨c2,_,⟨_,_,_,e2,f2⟩|⟨_,_,_,_,hf⟩⟩:=hv
   ·simp only[Own.nil]at f1 f2;rw[f1]at e1;rw[f2]at e2;subst e1 e2;exact⟨rL λn=>by simp[Op.equalIn,run_underlying h],λop a c=>eqGuard_at_slice op t a c _ _ _ _,rfl,rfl⟩
   ·exact hf.elim
  ·exact hf.elim
 ·obtain⟨c1,_,⟨_,_,_,e1,a1,f1⟩|⟨_,_,rfl,_⟩⟩:=hu
  ·rw[f1]at e1;subst e1;obtain⟨c2,_,⟨_,_,_,e2,f2⟩|⟨_,_,_,_,hf⟩⟩:=hv
   ·simp only[Own.nil]at f2;rw[f2]at e2;subst e2;exact⟨rL λn=>by simp[Op.equalIn,run_underlying h],λop a c=>eqGuard_at_slice op t a c _ _ _ _,rfl,rfl⟩
   ·exact hf.elim
  ·obtain⟨c2,_,⟨_,_,_,e2,f2⟩|⟨_,_,_,_,hf⟩⟩:=hv
   ·simp only[Own.nil]at f2;rw[f2]at e2;subst e2;exact⟨rL λn=>by simp[Op.equalIn,run_underlying h],λop a c=>eqGuard_at_slice op t a c _ _ _ _,rfl,rfl⟩
   ·exact hf.elim
 ·obtain⟨b,cap,_,_,o,rfl,_⟩|⟨⟨_,h0⟩,_⟩:=hu;case inr=>exact absurd h0 (Nat.succ_ne_zero _)
  obtain⟨c2,_,⟨_,_,_,e2,f2⟩|⟨_,_,_,_,hf⟩⟩:=hv
  ·simp only[Own.nil]at f2;rw[f2]at e2;subst e2;exact⟨rL λn=>by simp[Op.equalIn,run_underlying h],λop a c=>eqGuard_at_slice op t a c _ _ _ _,rfl,rfl⟩
  ·exact hf.elim
 ·obtain⟨q,r,rfl,_⟩:=hu;subst hv;exact⟨rL λn=>by simp[Op.equalIn,run_underlying h],λop a c=>eqGuard_at_func op t a c _ _ _ _,rfl,rfl⟩
 ·subst hu hv;exact⟨rL λn=>by simp[Op.equalIn,run_underlying h],λop a c=>eqGuard_at_nilFunc op t a c _,rfl,rfl⟩
theorem zIT{P:Program}{t:TypeId}{op:BinOp}{G:Gh}{w:World}{x y r:AV}{u v:Value}(hu:V G w x u)(hv:V G w y v)(a c:Operand)(h:zEy P op t x y=some r):∃q,(do eqGuard op t a c u v;binOp op t u v:Sem Value).run P w=.ok q w/\V G w r q:=by
 unfold zEy at h;split at h
 ·rename_i r' hr;cases h;unfold yAV at hr;split at hr
  ·simp only[V]at hu hv;subst hu hv;rename_i k a' k' b';split at hr;·rename_i hk;subst hk;split at hr<;>(try split at hr)<;>simp only[Option.some.injEq,reduceCtorEq]at hr<;>subst hr<;>(refine sT ?_;simp_all[eqGuard_at_int,binOp,Op.intArith,Op.intCmp,Op.intBits,Op.intDiv,Op.shift]<;>(try(intro hh;omega)))
   ·split at hr<;>(try split at hr)<;>simp only[Option.some.injEq,reduceCtorEq]at hr<;>subst hr<;>(refine sT ?_;simp_all[eqGuard,binOp,Op.shift]<;>(try(intro hh;omega)))
  ·simp only[V]at hu hv;subst hu hv;rename_i a' b';split at hr
   ·split at hr
    ·rename_i hsz;cases hr;refine sT ?_;have h63:¬(((a'.size+b'.size:Nat):Int)>IntKind.i64.max):=by simp;omega
     simp only[eqGuard_at_string,Sem.run_bind,Sem.run_pure,Result.andThen_ok,binOp,Op.stringOp];rw[if_neg h63];rfl
    ·cases hr
   ·cases hr;exact sT (by simp[eqGuard_at_string,binOp,Op.stringOp])
   ·cases hr;exact sT (by simp[eqGuard_at_string,binOp,Op.stringOp])
   ·cases hr
  ·cases hr
 ·cases hd:P.underlying t with|none=>simp[hd]at h|some d=>
   simp only[hd]at h;split at h
   ·rename_i heq _;simp only[Option.some.injEq]at heq;subst heq;simp only[Option.map_eq_some_iff]at h;obtain⟨b,hb,rfl⟩:=h;obtain⟨h1,h2,h3⟩:=zKY hd hu hv hb;refine⟨.bool b,?_,by simp only[V]⟩;rw[h2,h3.1];simp[h1]
   ·rename_i heq _;simp only[Option.some.injEq]at heq;subst heq;simp only[Option.map_eq_some_iff]at h;obtain⟨b,hb,rfl⟩:=h;obtain⟨h1,h2,h3⟩:=zKY hd hu hv hb;refine⟨.bool (!b),?_,by simp only[V]⟩;rw[h2,h3.2];simp[h1]
   ·cases h
def zPA(P:Program)(xs ys:List AV):List Field->Option Bool|[]=>none|f::fs=>match P.underlying f.type,xs[f.offset]?,ys[f.offset]? with|some (.int _),some (.val (.int k a)),some (.val (.int k' b))=>if k=k'/\f.name≠"_"then match fs with|[]=>some (a==b)|_::_=>(zPA P xs ys fs).map λr=>(a==b)&&r else none|_,_,_=>none
def zPB(P:Program)(t:TypeId)(x y:AV):Option Bool:=match P.underlying t,x,y with|some (.struct fs),.agg xs,.agg ys=>bif P.stoodInHeld t||P.eqGuardType P.depth t then none else zPA P xs ys fs.toList|_,_,_=>none
def zIU(P:Program)(op:BinOp)(t:TypeId)(x y:AV):Option AV:=match zEy P op t x y with|some v=>some v|none=>match op with|.eql=>(zPB P t x y).map λb=>.val (.bool b)|.neq=>(zPB P t x y).map λb=>.val (.bool (!b))|_=>none
theorem zFC{P:Program}{t:TypeId}{k:IntKind}(h:P.underlying t=some (.int k)){xs:Array Value}{off:Nat}{v:Value}(hx:xs[off]?=some v)(w:World):(part t xs off).run P w=.ok v w:=by unfold part;simp only[Sem.run_bind,oY h,zIR,Result.andThen_ok,Bool.false_eq_true,if_false,hx,Sem.run_pure]
theorem zKZ{P:Program}{G:Gh}{w:World}{xs ys:List AV}{us vs:List Value}(hx:VL G w xs us)(hy:VL G w ys vs)(d:Nat):∀(fs:List Field)(b:Bool),zPA P xs ys fs=some b->(Op.eqFields (d+1) us.toArray vs.toArray fs).run P w=.ok b w
 |[],b,h=>by cases h|f::fs,b,h=>by
  unfold zPA at h;split at h
  ·rename_i kk k a k' b' hu ha hb;split at h
   ·rename_i hk;obtain⟨rfl,hn⟩:=hk;obtain⟨u,e1,e2⟩:=VL.get _ _ hx _ _ ha;obtain⟨v,e3,e4⟩:=VL.get _ _ hy _ _ hb;simp only[V]at e2 e4;subst e2 e4;have p1:=zFC hu (xs:=us.toArray) (by simpa using e1) w;have p2:=zFC hu (xs:=vs.toArray) (by simpa using e3) w;unfold Op.eqFields;rw[if_pos hn];simp only[Sem.run_bind,p1,p2,Result.andThen_ok,run_equalIn_int w d _ _ _ _ _ hu];cases fs with
    |nil=>cases h;cases hab:(a==b')with|false=>simp|true=>simp[Op.eqFields]
    |cons g fs=>simp only[Option.map_eq_some_iff]at h;obtain⟨r,hr,rfl⟩:=h;cases hab:(a==b')with|false=>simp|true=>simpa using zKZ hx hy d (g::fs) r hr
   ·cases h
  ·cases h
theorem zMU{P:Program}{t:TypeId}{x y:AV}{b:Bool}(hb:zPB P t x y=some b):∃fs xs ys,P.underlying t=some (.struct fs)/\x=.agg xs/\y=.agg ys/\P.stoodInHeld t=false/\P.eqGuardType P.depth t=false/\zPA P xs ys fs.toList=some b:=by
 unfold zPB at hb;split at hb;·rename_i fs xs ys ht;cases hc:(P.stoodInHeld t||P.eqGuardType P.depth t)with|true=>rw[hc]at hb;cases hb|false=>rw[hc,cond_false]at hb;rw[Bool.or_eq_false_iff]at hc;exact⟨fs,xs,ys,ht,rfl,rfl,hc.1,hc.2,hb⟩
 ·cases hb
theorem zMV{P:Program}{t:TypeId}{op:BinOp}{G:Gh}{w:World}{x y r:AV}{u v:Value}(hu:V G w x u)(hv:V G w y v)(a c:Operand)(h:zIU P op t x y=some r):∃q,(do eqGuard op t a c u v;binOp op t u v:Sem Value).run P w=.ok q w/\V G w r q:=by
 unfold zIU at h;split at h;·rename_i r' hr;cases h;exact zIT hu hv a c hr
 ·have key:∀b,zPB P t x y=some b->∃us vs:List Value,u=.agg us.toArray/\v=.agg vs.toArray/\P.eqGuardType P.depth t=false/\(Op.equalIn 10000 t (.agg us.toArray) (.agg vs.toArray)).run P w=.ok b w:=by
   intro b hb;obtain⟨fs,xs,ys,ht,rfl,rfl,c1,c2,hb⟩:=zMU hb;simp only[V]at hu hv;obtain⟨us,rfl,h1⟩:=hu;obtain⟨vs,rfl,h2⟩:=hv;have hf:P.fieldsOf t=fs:=by unfold Program.fieldsOf;rw[ht]
   refine⟨us,vs,rfl,rfl,c2,?_⟩;rw[run_equalIn_struct w 9999 t _ _ (by rw[hf];exact ht) c1,hf];exact zKZ h1 h2 9998 fs.toList b hb
  split at h
  ·simp only[Option.map_eq_some_iff]at h;obtain⟨b,hb,rfl⟩:=h;obtain⟨us,vs,rfl,rfl,hg,he⟩:=key b hb;refine⟨.bool b,?_,by simp only[V]⟩;rw[Sem.run_bind,run_eqGuard_agg w _ _ _ _ _ _ hg,Result.andThen_ok,run_eql_struct,he];rfl
  ·simp only[Option.map_eq_some_iff]at h;obtain⟨b,hb,rfl⟩:=h;obtain⟨us,vs,rfl,rfl,hg,he⟩:=key b hb;refine⟨.bool (!b),?_,by simp only[V]⟩;rw[Sem.run_bind,run_eqGuard_agg w _ _ _ _ _ _ hg,Result.andThen_ok,run_neq_struct,he];rfl
  ·cases h
def A0(hi:Nat):AV->Option Nat|.val (.int _ i)=>if 0<=i/\i<=hi then some i.toNat else none|_=>none
def xZ(hi dflt:Nat):Option AV->Option Nat|none=>some dflt|some a=>A0 hi a
def Own.cut(o:Own)(l n:Nat)(same full:Bool):Own:=if full then .full else if same then match o with|.st k sz=>if l=0\/n≠0 then .st k sz else .no|.z=>.no|o=>o else .no
def amx(n:Nat):Option AV->Option (Nat×Bool)|some m=>(A0 n m).map λm=>(m,true)|none=>some (n,false)
def msb(n c:Nat)(hi mx:Option AV):Nat:=match mx,hi with|none,some _=>c|_,_=>n
def wY(P:Program)(t:TypeId)(x:AV)(lo hi mx:Option AV):Option AV:=match P.underlying t,x with
 |some (.slice e),.sl es n o=>match P.info? e,amx n mx with
  |some ie,some (m,full)=>match xZ m n hi with
   |some h=>if mx.isSome=true/\hi.isNone=true then none else match xZ h 0 lo with|some l=>if Nat.beq es.length (n*ie.size)then some (.sl ((es.drop (l*ie.size)).take ((h-l)*ie.size)) (h-l) (o.cut l (h-l) (Nat.beq h n) (full&&Nat.beq m h)))else none|none=>none
   |none=>none
  |_,_=>none
 |some (.slice e),.ms i off n c sz=>match P.info? e,amx (msb n c hi mx) mx with
  |some ie,some (m,full)=>match xZ m (msb n c hi mx) hi with
   |some h=>if mx.isSome=true/\hi.isNone=true then none else match xZ h 0 lo with|some l=>if sz=ie.size/\0<ie.size then some (.ms i (off+l*ie.size) (h-l) ((if full then m else c)-l) sz)else none|none=>none
   |none=>none
  |_,_=>none
 |some .string,.val (.string s)=>match mx,xZ s.size s.size hi with
  |none,some h=>match xZ h 0 lo with|some l=>some (.val (.string (s.extract l h)))|none=>none
  |_,_=>none
 |_,_=>none
def xE(P:Program)(t:TypeId)(x i:AV):Option AV:=match P.underlying t,x,i with
 |some (.slice e),.sl es n _,.val (.int _ i)=>match P.info? e with|some ie=>if 0<=i/\i<n then(if Nat.beq es.length (n*ie.size)then some (.ip (es.drop (i.toNat*ie.size)))else none)else none|none=>none
 |some (.array len e),.mp b off,.val (.int _ i)=>match P.info? e with|some ie=>if 0<=i/\i<len then some (.mp b (off+i.toNat*ie.size))else none|none=>none
 |some (.slice e),.ms b off n _ _,.val (.int _ i)=>match P.info? e with|some ie=>if 0<=i/\i<n then some (.mp b (off+i.toNat*ie.size))else none|none=>none
 |some (.array len e),.ip es,.val (.int _ i)=>match P.info? e with|some ie=>if 0<=i/\i<len then some (.ip (es.drop (i.toNat*ie.size)))else none|none=>none
 |_,_,_=>none
def iP(P:Program)(t:TypeId)(x i:AV):Option AV:=match P.underlying t,x,i with
 |some (.array len e),.agg cs,.val (.int _ i)=>match tsz P e with|some q=>if 0<=i/\i<len then pE q (cs.drop (i.toNat*q.2))else none|none=>none
 |some .string,.val (.string s),.val (.int _ i)=>if 0<=i then(match s[i.toNat]? with|some b=>some (.val (.int .u8 b.toNat))|none=>none)else none|_,_,_=>none
def A1(P:Program)(t:TypeId)(x:AV)(f:Nat):Option AV:=match P.underlying t with
 |some (.struct fs)=>match fs[f]? with
  |some fd=>match P.info? fd.type with
   |some i=>if i.size=0 then none else match x with|.ip es=>some (.ip (es.drop fd.offset))|.mp b off=>some (.mp b (off+fd.offset))|_=>none
   |none=>none
  |none=>none
 |_=>none
def zIV(P:Program)(t:TypeId)(x:AV)(f:Nat):Option AV:=match P.underlying t,x with
 |some (.struct fs),.agg cs=>match fs[f]? with
  |some fd=>match tsz P fd.type with|some q=>pE q (cs.drop fd.offset)|none=>none
  |none=>none
 |_,_=>none
def zLy:List AV->Option (List Int)|[]=>some []|.val (.int .u8 n)::l=>(zLy l).map (n::·)|_=>none
theorem zIW:∀(es:List AV)(ns:List Int),zLy es=some ns->es=ns.map λn=>.val (.int .u8 n):=by intro es;induction es with|nil=>intro ns h;cases h;rfl|cons a l ih=>
 intro ns h;unfold zLy at h;split at h;·rename_i e;cases e
 ·rename_i n l' e;cases e;simp only[Option.map_eq_some_iff]at h;obtain⟨r,hr,rfl⟩:=h;rw[ih r hr];rfl
 ·cases h
theorem VL.bytes{G:Gh}{w:World}:∀(ns:List Int)(vs:List Value),VL G w (ns.map λn=>.val (.int .u8 n)) vs->vs=ns.map (Value.int .u8)|[],[],_=>rfl|n::ns,v::vs,h=>by simp only[List.map_cons,VL,V]at h;rw[h.1,VL.bytes ns vs h.2];rfl|[],_::_,h=>by simp only[List.map_nil,VL]at h|_::_,[],h=>by simp only[List.map_cons,VL]at h
def yDG(ns:List Int):ByteArray:=ns.foldl (λr n=>r.push (UInt8.ofNat n.toNat)) ByteArray.empty
def n9(P:Program)(src dst:TypeId)(x:AV):Option AV:=match P.underlying src,P.underlying dst,x with
 |some _,some (.int k),.val (.int _ n)=>some (.val (.int k (k.wrap n)))|some _,some .string,.val (.string s)=>some (.val (.string s))|some (.slice e),some .string,.sl es n _=>match P.underlying e,zLy es with|some (.int .u8),some ns=>if ns.length=n then some (.val (.string (yDG ns)))else none|_,_=>none
 |_,_,_=>none
def zLx(mx:Bool):AV->AV->Option AV|.val (.int k x),.val (.int _ y)=>some (.val (.int k (if mx then(if y>x then y else x)else(if y<x then y else x))))|_,_=>none
def zXA(P:Program)(t:TypeId)(x:AV):Option AV:=match P.underlying t,x with|some .string,.val (.string s)=>some (.val (goInt s.size))|some (.slice _),.sl _ n _=>some (.val (goInt n))|some (.slice _),.ms _ _ n _ _=>some (.val (goInt n))|some (.array n _),_=>some (.val (goInt n))|_,_=>none
theorem sJ{P:Program}{w:World}{hi y:Nat}{a:AV}{G:Gh}{u:Value}{r:Nat}(hu:V G w a u)(h:A0 hi a=some r)(hy:hi<=y)(code:BoundsCode):(Instr.sliceBound u y code).run P w=.ok r w/\r<=hi:=by
 unfold A0 at h;split at h
 ·simp only[V]at hu;subst hu;split at h
  ·rename_i i hc;cases h;have h2:i<=(y:Int):=by omega
   exact⟨by simp[Instr.sliceBound,asIntOf,hc.1,h2],by omega⟩
  ·cases h
 ·cases h
theorem zFD{P:Program}{t:TypeId}{q:Bool×Nat}{G:Gh}{w:World}{cs:List AV}{vs:Array Value}{off:Nat}{r:AV}(ht:tsz P t=some q)(hv:VL G w cs (vs.toList.drop off))(h:pE q cs=some r):∃u,(part t vs off).run P w=.ok u w/\V G w r u:=by unfold tsz at ht;cases hu:P.underlying t with|none=>simp[hu]at ht|some d=>cases hi:P.info? t with|none=>simp[hu,hi]at ht|some i=>
 simp only[hu,hi,Option.some.injEq]at ht;subst ht;unfold pE at h;split at h;·rename_i n heq;simp only[Prod.mk.injEq]at heq;obtain⟨h1,rfl⟩:=heq;cases hle:Nat.ble i.size cs.length with|false=>simp[hle]at h|true=>
   simp only[hle,cond_true,Option.some.injEq]at h;subst h;have hle':i.size<=cs.length:=Nat.le_of_ble_eq_true hle;have hl:=VL.length _ _ hv;refine⟨.agg (vs.extract off (off+i.size)),?_,?_⟩;·simp[part,oY hu,h1,wF hi]
   ·simp only[V];refine⟨(vs.toList.drop off).take i.size,?_,VL.take _ _ _ hv⟩;congr 1;apply Array.ext';simp
 ·rename_i n heq;simp only[Prod.mk.injEq]at heq;split at h;·rename_i c cs';cases h;cases hvs:vs.toList.drop off with|nil=>rw[hvs]at hv;simp only[VL]at hv|cons v vs'=>
    rw[hvs]at hv;simp only[VL]at hv;have hget:vs[off]?=some v:=by
     have:(vs.toList.drop off)[0]?=some v:=by rw[hvs];rfl
     rw[List.getElem?_drop]at this;simpa using this
    refine⟨v,?_,hv.1⟩;simp[part,oY hu,heq.1,hget]
  ·cases h
theorem zCx{P:Program}{t:TypeId}{G:Gh}{w:World}{x i r:AV}{u v:Value}(hu:V G w x u)(hv:V G w i v)(h:xE P t x i=some r):∃q,(Instr.indexAt t u v).run P w=.ok q w/\V G w r q:=by
 unfold xE at h;split at h;·rename_i e es n o k i' hut;cases hie:P.info? e with|none=>simp[hie]at h|some ie=>
  simp only[hie]at h;split at h
  ·rename_i hc;split at h
   ·rename_i hlen;cases h;have hlen':=Nat.eq_of_beq_eq_true hlen;simp only[V]at hu hv;subst hv;obtain⟨cap,hcap,hh|⟨b,off,rfl,hcells,_⟩⟩:=hu;·omega
    ·refine⟨.pointer (some ⟨b,off+i'.toNat*ie.size,none⟩),?_,?_⟩;·simp[Instr.indexAt,run_underlying hut,asIntOf,hc.1,hc.2,wF hie,Addr.add_lit]
     ·simp only[V];exact⟨b,_,rfl,VC.drop _ _ _ _ hcells⟩
   ·cases h
  ·cases h
 ·rename_i len e b off k i' hut;cases hie:P.info? e with|none=>simp[hie]at h|some ie=>
  simp only[hie]at h;split at h
  ·rename_i hc;cases h;simp only[V]at hu hv;subst hv;obtain⟨c,hc',rfl⟩:=hu;refine⟨.pointer (some ⟨c,off+i'.toNat*ie.size,none⟩),?_,?_⟩;·simp[Instr.indexAt,run_underlying hut,asIntOf,Instr.sureAddr,hc.1,hc.2,wF hie,Addr.add_lit]
   ·simp only[V];exact⟨c,hc',rfl⟩
  ·cases h
 ·rename_i e b off n _ _ k i' hut;cases hie:P.info? e with|none=>simp[hie]at h|some ie=>
  simp only[hie]at h;split at h
  ·rename_i hc;cases h;simp only[V]at hu hv;subst hv;obtain⟨c,cap,hc',hcap,o,rfl,⟨eo,_⟩|⟨rfl,_⟩⟩|⟨⟨h0,_⟩,_⟩:=hu;rotate_left;·exact absurd hc.2 (by have:=hcap.1;omega)
   ·exact absurd hc.2 (by omega)
   have eo':=eo.symm;subst eo';refine⟨.pointer (some ⟨c,off+i'.toNat*ie.size,none⟩),?_,?_⟩;·simp[Instr.indexAt,run_underlying hut,asIntOf,hc.1,hc.2,wF hie,Addr.add_lit]
   ·simp only[V];exact⟨c,hc',rfl⟩
  ·cases h
 ·rename_i len e es k i' hut;cases hie:P.info? e with|none=>simp[hie]at h|some ie=>
  simp only[hie]at h;split at h
  ·rename_i hc;cases h;simp only[V]at hu hv;subst hv;obtain⟨b,off,rfl,hcells⟩:=hu;refine⟨.pointer (some ⟨b,off+i'.toNat*ie.size,none⟩),?_,?_⟩;·simp[Instr.indexAt,run_underlying hut,asIntOf,Instr.sureAddr,hc.1,hc.2,wF hie,Addr.add_lit]
   ·simp only[V];exact⟨b,_,rfl,VC.drop _ _ _ _ hcells⟩
  ·cases h
 ·cases h
theorem zMW{P:Program}{t:TypeId}{G:Gh}{w:World}{x i r:AV}{u v:Value}(hu:V G w x u)(hv:V G w i v)(h:iP P t x i=some r):∃q,(Instr.index t u v).run P w=.ok q w/\V G w r q:=by
 unfold iP at h;split at h;·rename_i len e cs k i' hut;cases hq:tsz P e with|none=>simp[hq]at h|some q=>
   simp only[hq]at h;split at h
   ·rename_i hc;simp only[V]at hu hv;subst hv;obtain⟨vs,rfl,hl⟩:=hu;obtain⟨r',hr,hv'⟩:=zFD (vs:=vs.toArray) (off:=i'.toNat*q.2) hq (by simpa using VL.drop _ _ _ hl) h;refine⟨r',?_,hv'⟩;have hsz:(sizeOf e).run P w=.ok q.2 w:=by unfold tsz at hq;cases h1:P.underlying e with|none=>simp[h1]at hq|some d=>cases h2:P.info? e with|none=>simp[h1,h2]at hq|some ie=>simp only[h1,h2,Option.some.injEq]at hq;subst hq;exact wF h2 w
    simp[Instr.index,run_underlying hut,asIntOf,hc.1,hc.2,hsz,hr]
   ·cases h
 ·rename_i s k i' hut;simp only[V]at hu hv;subst hu hv;split at h
  ·rename_i h0;split at h
   ·rename_i b hb;cases h;exact sT (by simp[Instr.index,run_underlying hut,asIntOf,h0,hb])
   ·cases h
  ·cases h
 ·cases h
theorem zCw{P:Program}{t:TypeId}{G:Gh}{w:World}{x r:AV}{f:Nat}{u:Value}(hu:V G w x u)(h:A1 P t x f=some r):∃q,(Instr.fieldAt t u f).run P w=.ok q w/\V G w r q:=by
 unfold A1 at h;split at h;·rename_i fs hut;cases hf:fs[f]? with|none=>simp[hf]at h|some fd=>simp only[hf]at h;cases hi:P.info? fd.type with|none=>simp[hi]at h|some i=>
  simp only[hi]at h;split at h;·cases h
  ·rename_i hz;split at h
   ·cases h;simp only[V]at hu;obtain⟨b,off,rfl,hcells⟩:=hu;refine⟨.pointer (some ⟨b,off+fd.offset,none⟩),?_,?_⟩;·simp[Instr.fieldAt,run_underlying hut,hf,Instr.sureAddr,fieldPlace,wF hi,hz,Addr.add_lit]
    ·simp only[V];exact⟨b,_,rfl,VC.drop _ _ _ _ hcells⟩
   ·rename_i i0 off;cases h;simp only[V]at hu;obtain⟨b,hb,rfl⟩:=hu;refine⟨.pointer (some ⟨b,off+fd.offset,none⟩),?_,?_⟩;·simp[Instr.fieldAt,run_underlying hut,hf,Instr.sureAddr,fieldPlace,wF hi,hz,Addr.add_lit]
    ·simp only[V];exact⟨b,hb,rfl⟩
   ·cases h
 ·cases h
theorem zMX{P:Program}{t:TypeId}{G:Gh}{w:World}{x r:AV}{f:Nat}{u:Value}(hu:V G w x u)(h:zIV P t x f=some r):∃q,(Instr.field t u f).run P w=.ok q w/\V G w r q:=by
 unfold zIV at h;split at h;·rename_i fs cs hut;cases hf:fs[f]? with|none=>simp[hf]at h|some fd=>simp only[hf]at h;cases hq:tsz P fd.type with|none=>simp[hq]at h|some q=>simp only[hq]at h;simp only[V]at hu;obtain⟨vs,rfl,hl⟩:=hu;obtain⟨r',hr,hv'⟩:=zFD (vs:=vs.toArray) (off:=fd.offset) hq (by simpa using VL.drop _ _ _ hl) h;exact⟨r',by simp[Instr.field,run_underlying hut,hf,asAgg,hr],hv'⟩
 ·cases h
theorem zFE{P:Program}{s d:TypeId}{G:Gh}{w:World}{x r:AV}{u:Value}(hu:V G w x u)(h:n9 P s d x=some r):∃q,(convert s d u).run P w=.ok q w/\V G w r q:=by
 unfold n9 at h;split at h
 ·rename_i hs hd;cases h;simp only[V]at hu;subst hu;exact sT (by simp[convert,run_underlying hs,run_underlying hd,Conv.intToInt])
 ·rename_i hs hd;cases h;simp only[V]at hu;subst hu;exact sT (by simp[convert,run_underlying hs,run_underlying hd])
 ·rename_i e es n o hs hd;split at h
  ·rename_i ns he hns;split at h
   ·rename_i hlen;cases h;have hes:=zIW _ _ hns;simp only[V]at hu;obtain⟨cap,_,⟨rfl,rfl,_,hu,_⟩|⟨b,off,rfl,hC,_⟩⟩:=hu;·cases hns;refine sT ?_;rw[hu];generalize aB u=p;rw[run_convert_bytes_string w s d e p 0 0 hs he hd];cases p with|none=>rfl|some a=>
      refine run_bytesToString w a 0 0 [] ?_;have:=run_loadCells_list (P:=P) (w:=w) a ([]:List Value) λc v hc=>by simp at hc
      simpa using this
    ·obtain⟨vs,hv,hcell⟩:=VC.cells _ _ _ hC;rw[hes]at hv;have hvs:=VL.bytes _ _ hv;subst hvs;refine sT ?_;rw[run_convert_bytes_string w s d e _ _ _ hs he hd];refine run_bytesToString w ⟨b,off,none⟩ n cap ns ?_;have:=run_loadCells_list (P:=P) (w:=w) ⟨b,off,none⟩ (ns.map (Value.int .u8)) λc v hc=>by obtain⟨h1,h2⟩:=List.getElem?_eq_some_iff.1 hc;rw[Addr.add_lit,hcell c h1,h2]
     rw[List.length_map,hlen]at this;exact this
   ·cases h
  ·cases h
 ·cases h
theorem zTL{P:Program}{t ty:TypeId}{G:Gh}{w:World}{x r:AV}{u:Value}(hu:V G w x u)(h:zXA P t x=some r):∃q,(Builtin.len_ #[t] ty #[u]).run P w=.ok q w/\V G w r q:=by
 unfold zXA at h;split at h
 ·rename_i hut;cases h;simp only[V]at hu;subst hu;exact sT (by simp[Builtin.len_,run_underlying hut])
 ·rename_i hut;cases h;simp only[V]at hu;obtain⟨cap,hcap,⟨_,rfl,_,hu,_⟩|⟨b,off,rfl,_⟩⟩:=hu;·rw[hu];exact sT (by simp[Builtin.len_,run_underlying hut])
  ·exact sT (by simp[Builtin.len_,run_underlying hut])
 ·rename_i hut;cases h;simp only[V]at hu;obtain⟨b,cap,_,hcap,o,rfl,_⟩|⟨⟨rfl,_⟩,_,p,rfl⟩:=hu<;>exact sT (by simp[Builtin.len_,run_underlying hut])
 ·rename_i hut;cases h;exact sT (by simp[Builtin.len_,run_underlying hut])
 ·cases h
def zXB(P:Program)(t:TypeId)(x:AV):Option AV:=match P.underlying t,x with|some (.slice _),.sl _ n .full=>some (.val (goInt n))|some (.slice _),.sl _ _ .nl=>some (.val (goInt 0))|_,_=>none
theorem zTM{P:Program}{t ty:TypeId}{G:Gh}{w:World}{x r:AV}{u:Value}(hu:V G w x u)(h:zXB P t x=some r):∃q,(Builtin.cap_ #[t] ty #[u]).run P w=.ok q w/\V G w r q:=by
 unfold zXB at h;split at h
 ·rename_i hut;cases h;simp only[V,kR]at hu;obtain⟨cap,hcap,⟨_,rfl,_,hu,_⟩|⟨b,off,rfl,_,rfl⟩⟩:=hu;·rw[hu];exact sT (by simp[Builtin.cap_,run_underlying hut])
  ·exact sT (by simp[Builtin.cap_,run_underlying hut])
 ·rename_i hut;cases h;simp only[V,kR]at hu;obtain⟨cap,hcap,⟨_,rfl,_,hu,_⟩|⟨b,off,rfl,_,hf⟩⟩:=hu;·rw[hu];exact sT (by simp[Builtin.cap_,run_underlying hut])
  ·exact hf.elim
 ·cases h
theorem lP{P:Program}{w:World}{G:Gh}{isS:Bool}{n cap m h l:Nat}{full:Bool}{lo hi mx:Option AV}{vlo vhi vmx:Option Value}(hlo:∀a,lo=some a->∃u,vlo=some u/\V G w a u)(hhi:∀a,hi=some a->∃u,vhi=some u/\V G w a u)(hmx:∀a,mx=some a->∃u,vmx=some u/\V G w a u)(nlo:lo=none->vlo=none)(nhi:hi=none->vhi=none)(nmx:mx=none->vmx=none)(hn:n<=cap)(h1:amx n mx=some (m,full))(h2:xZ m n hi=some h)(h3:xZ h 0 lo=some l)(h4:¬(mx.isSome=true/\hi.isNone=true)):(Instr.sliceBounds isS n cap vlo vhi vmx).run P w=.ok (l,h,if full then m else cap) w/\l<=h/\h<=m/\m<=n/\(full=false->m=n):=by cases mx with
 |none=>
  simp only[amx,Option.some.injEq,Prod.mk.injEq]at h1;obtain⟨rfl,rfl⟩:=h1;have e1:=nmx rfl;subst e1;have hhv:∃hh:h<=n,True:=by cases hi with|none=>simp only[xZ,Option.some.injEq]at h2;exact⟨by omega,trivial⟩|some a=>obtain⟨u,_,hu⟩:=hhi a rfl;exact⟨(sJ (P:=P) hu h2 (Nat.le_refl _) .sliceB).2,trivial⟩
  obtain⟨hh,_⟩:=hhv;have hlv:l<=h:=by cases lo with|none=>simp only[xZ,Option.some.injEq]at h3;omega|some a=>obtain⟨u,_,hu⟩:=hlo a rfl;exact(sJ (P:=P) hu h3 (Nat.le_refl _) .sliceB).2
  refine⟨?_,hlv,hh,Nat.le_refl _,λ_=>rfl⟩;cases hi with
  |none=>simp only[xZ,Option.some.injEq]at h2;subst h2;have e2:=nhi rfl;subst e2;cases lo with|none=>simp only[xZ,Option.some.injEq]at h3;subst h3;have e3:=nlo rfl;subst e3;simp[Instr.sliceBounds]|some a=>obtain⟨u,rfl,hu⟩:=hlo a rfl;simp[Instr.sliceBounds,(sJ (P:=P) hu h3 (Nat.le_refl _) .sliceB).1]
  |some b=>obtain⟨ub,rfl,hub⟩:=hhi b rfl;have r1:=λc=>(sJ (P:=P) hub h2 hn c).1;cases lo with|none=>simp only[xZ,Option.some.injEq]at h3;subst h3;have e3:=nlo rfl;subst e3;simp[Instr.sliceBounds,r1]|some a=>obtain⟨u,rfl,hu⟩:=hlo a rfl;simp[Instr.sliceBounds,r1,(sJ (P:=P) hu h3 (Nat.le_refl _) .sliceB).1]
 |some c=>obtain⟨uc,rfl,huc⟩:=hmx c rfl;simp only[amx,Option.map_eq_some_iff,Prod.mk.injEq]at h1;obtain⟨m',h1,rfl,rfl⟩:=h1;obtain⟨_,hmn⟩:=sJ (P:=P) huc h1 (Nat.le_refl _) .slice3B;have r0:=λc=>(sJ (P:=P) huc h1 hn c).1;cases hi with|none=>exact absurd ⟨rfl,rfl⟩ h4|some b=>obtain⟨ub,rfl,hub⟩:=hhi b rfl;obtain⟨_,hhm⟩:=sJ (P:=P) hub h2 (Nat.le_refl _) .slice3B;have r1:=λc=>(sJ (P:=P) hub h2 (Nat.le_refl _) c).1;cases lo with|none=>simp only[xZ,Option.some.injEq]at h3;subst h3;have e3:=nlo rfl;subst e3;exact⟨by simp[Instr.sliceBounds,r0,r1],Nat.zero_le _,hhm,hmn,λe=>by cases e⟩|some a=>obtain⟨u,rfl,hu⟩:=hlo a rfl;obtain⟨_,hl⟩:=sJ (P:=P) hu h3 (Nat.le_refl _) .sliceB;exact⟨by simp[Instr.sliceBounds,r0,r1,(sJ (P:=P) hu h3 (Nat.le_refl _) .slice3C).1],hl,hhm,hmn,λe=>by cases e⟩
theorem zMY{G:Gh}{o:Own}{p:Option Addr}{l n:Nat}{same full:Bool}(h:o.nil G p):(o.cut l n same full).nil G p:=by unfold Own.cut;cases full with|true=>trivial|false=>cases same with|false=>trivial|true=>cases o with|no=>trivial|full=>trivial|nl=>trivial|nn=>exact h|fr=>trivial|z=>trivial|st k sz=>
 simp only[Bool.false_eq_true,if_false,if_true];split;·exact h
 ·trivial
theorem zTN{G:Gh}{b off n cap l h m s:Nat}{full:Bool}{o:Own}(ho:kR G b off (n*s) n cap o)(q1:l<=h)(q2:h<=m)(q3:m<=n)(q4:full=false->m=n)(hcap:n<=cap):kR G b (if(if full then m else cap)=l then off else off+l*s) ((h-l)*s) (h-l) ((if full then m else cap)-l) (o.cut l (h-l) (Nat.beq h n) (full&&Nat.beq m h)):=by cases hf:(full&&Nat.beq m h)with|true=>simp only[Bool.and_eq_true]at hf;have:=Nat.eq_of_beq_eq_true hf.2;simp only[Own.cut,if_true,kR,hf.1];omega|false=>cases hs:Nat.beq h n with|false=>simp[Own.cut,kR]|true=>
 have hs':=Nat.eq_of_beq_eq_true hs;have hfull:full=false:=by cases hfu:full with|false=>rfl|true=>
   exfalso;have:m=h:=by omega
   simp[hfu,this]at hf
 subst hfull;simp only[Own.cut,Bool.false_eq_true,if_false,if_true];cases o with|no=>trivial|full=>simp only[kR]at ho⊢;omega|nl=>exact ho|nn=>trivial|fr=>exact ho|z=>trivial|st k sz=>
  simp only;by_cases hc:l=0\/h-l≠0
  ·rw[if_pos hc];simp only[kR]at ho⊢;obtain⟨hq,ho|⟨ho1,hnF,ho2⟩⟩:=ho;·refine⟨hq,.inl ⟨by omega,by omega⟩⟩
   rcases Nat.eq_zero_or_pos l with hl0|hl0
   ·subst hl0;rw[hs'];simp only[Nat.sub_zero,Nat.zero_mul,Nat.add_zero,ite_self];exact⟨hq,.inr ⟨ho1,hnF,ho2⟩⟩
   ·have hne:h-l≠0:=by omega
    have hnpos:0<n:=by omega
    have hsz:sz=s:=Nat.eq_of_mul_eq_mul_left hnpos ho1.symm;subst hsz;have hcl:¬cap=l:=by omega
    rw[if_neg hcl];refine⟨hq,.inr ⟨rfl,hnF,?_⟩⟩;rw[ho2,hs'];have e1:off+l*sz+(n-l)*sz=off+n*sz:=by rw[Nat.add_assoc,<-Nat.add_mul];congr 2;omega
    have e2:off+l*sz+(cap-l)*sz=off+cap*sz:=by rw[Nat.add_assoc,<-Nat.add_mul];congr 2;omega
    rw[e1,e2]
  ·rw[if_neg hc];trivial
theorem zMZ{P:Program}{t:TypeId}{G:Gh}{w:World}{x r:AV}{lo hi mx:Option AV}{vlo vhi vmx:Option Value}{u:Value}(hu:V G w x u)(hlo:∀a,lo=some a->∃u,vlo=some u/\V G w a u)(hhi:∀a,hi=some a->∃u,vhi=some u/\V G w a u)(hmx:∀a,mx=some a->∃u,vmx=some u/\V G w a u)(nlo:lo=none->vlo=none)(nhi:hi=none->vhi=none)(nmx:mx=none->vmx=none)(h:wY P t x lo hi mx=some r):∃q,(Instr.sliceAt t u vlo vhi vmx).run P w=.ok q w/\V G w r q:=by
 unfold wY at h;split at h;·rename_i e es n o hut;cases hie:P.info? e with|none=>simp[hie]at h|some ie=>cases hm:amx n mx with|none=>simp[hie,hm]at h|some mf=>obtain⟨m,full⟩:=mf;simp only[hie,hm]at h;cases hh:xZ m n hi with|none=>simp[hh]at h|some hb=>
     simp only[hh]at h;split at h;·cases h
     ·rename_i h4;cases hl:xZ hb 0 lo with|none=>simp[hl]at h|some l=>
       simp only[hl]at h;split at h
       ·rename_i hlen;cases h;have hlen':=Nat.eq_of_beq_eq_true hlen;simp only[V]at hu;obtain⟨cap,hcap,hcase⟩:=hu;obtain⟨hrun,q1,q2,q3,q4⟩:=lP (P:=P) (isS:=true) hlo hhi hmx nlo nhi nmx hcap hm hh hl h4;have hsl:∀base,(Instr.sliceAt t (.slice base n cap) vlo vhi vmx).run P w=.ok (.slice (if(if full then m else cap)=l then base else base.map (·.add (l*ie.size))) (hb-l) ((if full then m else cap)-l)) w:=by intro base;simp[Instr.sliceAt,run_underlying hut,Instr.slice,hrun,wF hie]
        have hlen2:((es.drop (l*ie.size)).take ((hb-l)*ie.size)).length=(hb-l)*ie.size:=by simp only[List.length_take,List.length_drop,hlen',<-Nat.sub_mul];exact Nat.min_eq_left (Nat.mul_le_mul_right _ (by omega))
        have hMl:hb<=(if full then m else cap):=by split<;>omega
        rcases hcase with⟨rfl,rfl,rfl,hu,hpl⟩|⟨b,off,rfl,hcells,ho⟩
        ·rw[hu];refine⟨_,hsl (aB u),?_⟩;have e1:hb=0:=by omega
         have e2:l=0:=by omega
         have e3:m=0:=by omega
         subst e1 e2 e3;rw[if_pos (by split<;>rfl)];simp only[V];refine⟨0,Nat.le_refl _,.inl ⟨by simp,by first|rfl|trivial,by first|rfl|trivial,by simp[aB],zMY hpl⟩⟩
        ·refine⟨_,hsl _,?_⟩;simp only[V];refine⟨(if full then m else cap)-l,by omega,.inr ?_⟩;have hcut:=zTN (G:=G) (o:=o) (by rw[hlen']at ho;exact ho) q1 q2 q3 q4 hcap;rw[hlen2];by_cases hMl':(if full then m else cap)=l
         ·rw[if_pos hMl']at hcut⊢;refine⟨b,off,rfl,?_,hcut⟩;have:hb-l=0:=by omega
          simp[this,VC]
         ·rw[if_neg hMl']at hcut⊢;refine⟨b,off+l*ie.size,by simp[Addr.add_lit],VC.take _ _ _ _ (VC.drop _ _ _ _ hcells),hcut⟩
       ·cases h
 ·rename_i e i off n c sz hut;cases hie:P.info? e with|none=>simp[hie]at h|some ie=>generalize hnn:msb n c hi mx=nn at h;cases hm:amx nn mx with|none=>simp[hie,hm]at h|some mf=>obtain⟨m,full⟩:=mf;simp only[hie,hm]at h;cases hh:xZ m nn hi with|none=>simp[hh]at h|some hb=>
     simp only[hh]at h;split at h;·cases h
     ·rename_i h4;cases hl:xZ hb 0 lo with|none=>simp[hl]at h|some l=>
       simp only[hl]at h;split at h
       ·rename_i hszz;obtain⟨hsz,hsz1⟩:=hszz;simp only[V]at hu;rcases hu with⟨b,cap,hbb,hcap,o,rfl,hroom⟩|⟨⟨rfl,rfl⟩,hN,p,rfl⟩;case inr=>
         have hnn0:nn=0:=by subst hnn;unfold msb;split<;>rfl
         subst hnn0;obtain⟨hrun0,q1,q2,q3,q4⟩:=lP (P:=P) (isS:=true) hlo hhi hmx nlo nhi nmx (Nat.le_refl 0) hm hh hl h4;have e1:hb=0:=by omega
         have e2:l=0:=by omega
         have e3:m=0:=by omega
         subst e1 e2 e3;cases h;refine⟨.slice p 0 0,?_,?_⟩
         ·have hrun0':(Instr.sliceBounds true 0 0 vlo vhi vmx).run P w=.ok (0,0,0) w:=by rw[hrun0];cases full<;>rfl
          cases p<;>simp[Instr.sliceAt,run_underlying hut,Instr.slice,hrun0',wF hie]
         ·simp only[V];exact .inr ⟨⟨(by first|rfl|trivial),(by cases full<;>first|rfl|trivial)⟩,hN,p,(by first|rfl|trivial)⟩
        have hnc:nn<=c:=by
         subst hnn;unfold msb;split;·exact Nat.le_refl _
         ·exact hcap.1
        obtain⟨hrun0,q1,q2,q3,q4⟩:=lP (P:=P) (isS:=true) hlo hhi hmx nlo nhi nmx (Nat.le_trans hnc hcap.2) hm hh hl h4;have hrun:(Instr.sliceBounds true n cap vlo vhi vmx).run P w=.ok (l,hb,if full then m else cap) w:=by
         have:Instr.sliceBounds true nn cap vlo vhi vmx=Instr.sliceBounds true n cap vlo vhi vmx:=by cases hi with|none=>subst hnn;cases mx<;>rfl|some a=>obtain⟨v,rfl,_⟩:=hhi a rfl;cases vmx<;>rfl
         rw[<-this];exact hrun0
        have hfc:(if full=true then m else c)<=(if full=true then m else cap):=by split<;>omega
        have hhc:hb<=(if full=true then m else c):=by split<;>omega
        have hsl:(Instr.sliceAt t (.slice (some ⟨b,o,none⟩) n cap) vlo vhi vmx).run P w=.ok (.slice (if(if full then m else cap)=l then some ⟨b,o,none⟩else some ⟨b,o+l*ie.size,none⟩) (hb-l) ((if full then m else cap)-l)) w:=by simp[Instr.sliceAt,run_underlying hut,Instr.slice,hrun,wF hie,Addr.add_lit]
        refine⟨_,hsl,?_⟩;have hMl:hb<=(if full then m else cap):=by split<;>omega
        have hMc:(if full then m else cap)<=cap:=by split<;>omega
        cases h;simp only[V];have hM:∀{l':Nat},(if full=true then m else cap)-l'<=cap-l':=by intro l';split<;>omega
        by_cases hcl:(if full=true then m else cap)=l;·-- nothing is left,and the pointer stays
         have h0:hb-l=0:=by omega
         rw[if_pos hcl,h0];refine .inl ⟨b,(if full then m else cap)-l,hbb,⟨by omega,by omega⟩,o,rfl,?_⟩;rcases Nat.eq_zero_or_pos l with hl0|hl0
         ·rcases hroom with⟨rfl,vs,T,h1,h2⟩|⟨_,h3⟩
          ·left;subst hl0;refine⟨by simp,vs,T,h1,Nat.le_trans ?_ h2⟩;subst hsz;simp only[Nat.zero_mul,Nat.add_zero,Nat.sub_zero];exact Nat.add_le_add_left (Nat.mul_le_mul_right _ hMc) _
          ·right;exact⟨by omega,by omega⟩
         ·right;refine⟨by omega,?_⟩;have:=Nat.mul_pos hl0 hsz1;omega
        ·rw[if_neg hcl];refine .inl ⟨b,(if full then m else cap)-l,hbb,⟨by omega,by omega⟩,_,rfl,?_⟩;rcases hroom with⟨rfl,vs,T,h1,h2⟩|⟨h3,h4⟩
         ·left;refine⟨rfl,vs,T,h1,Nat.le_trans ?_ h2⟩;subst hsz;rw[Nat.add_assoc,<-Nat.add_mul];exact Nat.add_le_add_left (Nat.mul_le_mul_right _ (by omega)) _
         ·right;have hcc:(if full=true then m else c)<=c:=by split<;>omega
          exact⟨by omega,by omega⟩
       ·cases h
 ·rename_i s hut;split at h
  ·rename_i hb hh;split at h
   ·rename_i l hl;cases h;simp only[V]at hu;subst hu;have e0:=nmx rfl;subst e0;obtain⟨hrun,_⟩:=lP (P:=P) (isS:=false) (m:=s.size) (full:=false) (cap:=s.size) hlo hhi (mx:=none) (vmx:=none) (λa e=>by cases e) nlo nhi (λ_=>rfl) (Nat.le_refl _) rfl hh hl (by simp);exact sT (by simp[Instr.sliceAt,run_underlying hut,Instr.slice,hrun])
   ·cases h
  ·cases h
 ·cases h
def O9(ev:Operand->AV)(parts:Array (Nat×Operand)):List (Nat×AV):=parts.toList.map λp=>(p.1,ev p.2)
def pop(P:Program)(o:Op)(ev:Operand->AV):Option AV:=match o with
 |.move x|.assign x=>some (ev x)|.pick c a b=>match ev c with|.val (.bool t)=>some (bif t then ev a else ev b)|_=>none
 |.build t parts=>zIS P t (O9 ev parts)|.nilCheck x=>match ev x with|.mp b off=>some (.mp b off)|.ip es=>some (.ip es)|.clo f fs cs=>some (.clo f fs cs)|_=>none
 |.binOp op t x y _=>zIU P op t (ev x) (ev y)|.unOp op _ x=>match op,ev x with|.not,.val (.bool b)=>some (.val (.bool (!b)))|.neg,.val (.int k n)=>some (.val (.int k (k.wrap (0-n))))|_,_=>none
 |.convert s d x=>n9 P s d (ev x)|.makeFunc (.func f) first captured=>some (.clo f (first.toList.map ev) (captured.toList.map ev))|.slice t x lo hi mx=>wY P t (ev x) (lo.map ev) (hi.map ev) (mx.map ev)|.fieldAddr t x f=>A1 P t (ev x) f|.field t x f=>zIV P t (ev x) f|.indexAddr t x i=>xE P t (ev x) (ev i)|.index t x i=>iP P t (ev x) (ev i)|.extract t i=>match ev t with|.tup vs=>vs[i]?|_=>none
 |.load t a=>match tsz P t,ev a with|some q,.ip es=>pE q es|_,_=>none
 |.call {callee:=.builtin .len,args,argTypes}=>match args.toList,argTypes.toList with|[x],[t]=>zXA P t (ev x)|_,_=>none
 |.call {callee:=.builtin .max,args,argTypes:=_}=>match args.toList with|[x,y]=>zLx true (ev x) (ev y)|_=>none
 |.call {callee:=.builtin .min,args,argTypes:=_}=>match args.toList with|[x,y]=>zLx false (ev x) (ev y)|_=>none
 |.call {callee:=.builtin .cap,args,argTypes}=>match args.toList,argTypes.toList with|[x],[t]=>zXB P t (ev x)|_,_=>none
 |_=>none
theorem VP.map{G:Gh}{w:World}{ev:Operand->AV}{a:Act}:∀(l:List (Nat×Operand)),(∀p∈l,V G w (ev p.2) (a.eval p.2))->VP G w (l.map λp=>(p.1,ev p.2)) (l.map λp=>(p.1,a.eval p.2))|[],_=>.nil|p::l,h=>.cons (h p (by simp)) (VP.map l λq hq=>h q (by simp[hq]))
theorem VL.mapv{G:Gh}{w:World}{ev:Operand->AV}{a:Act}:∀(l:List Operand),(∀p∈l,V G w (ev p) (a.eval p))->VL G w (l.map ev) (l.map a.eval)|[],_=>by simp[VL]|p::l,h=>by simp only[List.map_cons,VL];exact⟨h p (by simp),VL.mapv l λq hq=>h q (by simp[hq])⟩
theorem zIX{P:Program}{t:TypeId}{q:Bool×Nat}{G:Gh}{w:World}{es:List AV}{b off:Nat}{r:AV}(ht:tsz P t=some q)(hc:VC G w es b off)(h:pE q es=some r):∃u,(Instr.loadAt t (.pointer (some ⟨b,off,none⟩))).run P w=.ok u w/\V G w r u:=by unfold tsz at ht;cases hu:P.underlying t with|none=>simp[hu]at ht|some d=>cases hi:P.info? t with|none=>simp[hu,hi]at ht|some i=>
 simp only[hu,hi,Option.some.injEq]at ht;subst ht;unfold pE at h;split at h;·rename_i n heq;simp only[Prod.mk.injEq]at heq;obtain⟨h1,rfl⟩:=heq;cases hle:Nat.ble i.size es.length with|false=>simp[hle]at h|true=>
   simp only[hle,cond_true,Option.some.injEq]at h;subst h;have hle':i.size<=es.length:=Nat.le_of_ble_eq_true hle;obtain⟨vs,hv,hcell⟩:=VC.cells _ _ _ (VC.take es b off i.size hc);have hl:vs.length=i.size:=by rw[VL.length _ _ hv];simp;omega
   have hrun:=run_loadCells_list (P:=P) w ⟨b,off,none⟩ vs (λj v hj=>by have hjl:=(List.getElem?_eq_some_iff.1 hj);obtain⟨hj1,hj2⟩:=hjl;rw[Addr.add_lit,hcell j hj1,hj2]);rw[hl]at hrun;refine⟨.agg vs.toArray,?_,by simp only[V];exact⟨vs,rfl,hv⟩⟩;simp[Instr.loadAt,Instr.sureAddr,loadVar,oY hu,h1,wF hi,hrun]
 ·rename_i n heq;simp only[Prod.mk.injEq]at heq;split at h
  ·rename_i c cs';cases h;simp only[VC]at hc;obtain⟨_,⟨v,hv,hcv⟩,_⟩:=hc;refine⟨v,?_,hcv⟩;simp[Instr.loadAt,Instr.sureAddr,loadVar,oY hu,heq.1,hv]
  ·cases h
theorem zXC{P:Program}{o:Oper}{ev:Operand->AV}{v:AV}(h:pop P o.op ev=some v):wN P o {ev:=ev,v:=v}:=by
 refine wN.pure λG w a hx=>?_;obtain⟨dst,op,type,pos,after,guard⟩:=o;have val:∀{s:Sem Value},(∃q,s.run P w=.ok q w/\V G w v q)->(execOp a.eval ⟨dst,op,type,pos,after,guard⟩=(do pure (.value (<-s))))->∃u,(execOp a.eval ⟨dst,op,type,pos,after,guard⟩).run P w=.ok (.value u) w/\V G w v u:=by rintro s⟨q,hq,hv⟩he;refine⟨q,?_,hv⟩;rw[he];simp[hq]
 simp only[pop]at h;split at h;·cases h;exact⟨_,rfl,hx _ (by simp[Op.operands])⟩
 ·cases h;exact⟨_,rfl,hx _ (by simp[Op.operands])⟩
 ·rename_i c x y;split at h
  ·rename_i t ht;cases h;have hc:=hx c (by simp[Op.operands]);rw[ht]at hc;simp only[V]at hc;refine⟨if t then a.eval x else a.eval y,?_,?_⟩;·simp only[execOp,hc];cases t<;>rfl
   ·cases t;·exact hx y (by simp[Op.operands])
    ·exact hx x (by simp[Op.operands])
  ·cases h
 ·rename_i t parts;refine val (zMT (parts':=parts.map λ(i,x)=>(i,a.eval x)) ?_ h) rfl;have:=VP.map (G:=G) (w:=w) (ev:=ev) (a:=a) parts.toList (λp hp=>hx p.2 (by simp[Op.operands];exact⟨p.1,by simpa using hp⟩));simpa[O9]using this
 ·rename_i x;have hxx:=hx x (by simp[Op.operands]);split at h
  ·rename_i b off he;cases h;rw[he]at hxx;refine⟨_,?_,hxx⟩;simp only[V]at hxx;obtain⟨q,_,hq⟩:=hxx;simp[execOp,hq]
  ·rename_i es he;cases h;rw[he]at hxx;refine⟨_,?_,hxx⟩;simp only[V]at hxx;obtain⟨q,_,hq,_⟩:=hxx;simp[execOp,hq]
  ·rename_i f fs cs he;cases h;rw[he]at hxx;refine⟨_,?_,hxx⟩;simp only[V]at hxx;obtain⟨q,r,hq,_⟩:=hxx;simp[execOp,hq]
  ·cases h
 ·rename_i op t x y ty;exact val (zMV (hx x (by simp[Op.operands])) (hx y (by simp[Op.operands])) x y h) rfl
 ·rename_i op ty x;have hxx:=hx x (by simp[Op.operands]);split at h
  ·rename_i b he;cases h;rw[he]at hxx;simp only[V]at hxx;exact val ⟨.bool (!b),by simp[hxx,Op.unary],by simp only[V]⟩ rfl
  ·rename_i k n he;cases h;rw[he]at hxx;simp only[V]at hxx;exact val ⟨.int k (k.wrap (0-n)),by simp[hxx,Op.unary,Op.intArith],by simp only[V]⟩ rfl
  ·cases h
 ·rename_i s d x;exact val (zFE (hx x (by simp[Op.operands])) h) rfl
 ·rename_i f first captured;cases h;refine val ⟨.func (.func f) (first.map a.eval) (captured.map a.eval),rfl,?_⟩ rfl;simp only[V];refine⟨first.toList.map a.eval,captured.toList.map a.eval,by rw[<-Array.toList_map,<-Array.toList_map],VL.mapv _ λp hp=>hx p (by simp[Op.operands];exact .inl (by simpa using hp)),VL.mapv _ λp hp=>hx p (by simp[Op.operands];exact .inr (by simpa using hp))⟩
 ·rename_i t x lo hi mx;have mo:∀(z:Option Operand),(∀y,z=some y->y∈(Op.slice t x lo hi mx).operands)->(∀b,z.map ev=some b->∃u,z.map a.eval=some u/\V G w b u):=by intro z hz b hb;cases z with|none=>cases hb|some y=>simp only[Option.map_some,Option.some.injEq]at hb;subst hb;exact⟨_,rfl,hx y (hz y rfl)⟩
  have no:∀(z:Option Operand),z.map ev=none->z.map a.eval=none:=by intro z hz;cases z with|none=>rfl|some y=>cases hz
  exact val (zMZ (hx x (by simp[Op.operands])) (mo lo (by simp[Op.operands];intro y hy;simp[hy])) (mo hi (by simp[Op.operands];intro y hy;simp[hy])) (mo mx (by simp[Op.operands];intro y hy;simp[hy])) (no lo) (no hi) (no mx) h) rfl
 ·rename_i t x f;exact val (zCw (hx x (by simp[Op.operands])) h) rfl
 ·rename_i t x f;exact val (zMX (hx x (by simp[Op.operands])) h) rfl
 ·rename_i t x i;exact val (zCx (hx x (by simp[Op.operands])) (hx i (by simp[Op.operands])) h) rfl
 ·rename_i t x i;exact val (zMW (hx x (by simp[Op.operands])) (hx i (by simp[Op.operands])) h) rfl
 ·rename_i t i;split at h
  ·rename_i vs he;have hxx:=hx t (by simp[Op.operands]);rw[he]at hxx;simp only[V]at hxx;obtain⟨us,hus,hl⟩:=hxx;obtain⟨u,hu,hv⟩:=VL.get _ _ hl i v h;refine val ⟨u,?_,hv⟩ rfl;simp[hus,Instr.extract,hu]
  ·cases h
 ·rename_i t x;split at h
  ·rename_i q es hq he;have hxx:=hx x (by simp[Op.operands]);rw[he]at hxx;simp only[V]at hxx;obtain⟨b,off,hb,hc⟩:=hxx;refine val ?_ rfl;rw[hb];exact zIX hq hc h
  ·cases h
 ·rename_i args argTypes;split at h
  ·rename_i x t h1 h2;have e1:args=#[x]:=by cases args;simp_all
   have e2:argTypes=#[t]:=by cases argTypes;simp_all
   subst e1 e2;refine val (s:=Builtin.len_ #[t] type #[a.eval x]) (zTL (hx x (by simp[Op.operands,Call.operands])) h) ?_;simp[execOp,resolve,invoke,builtin]
  ·cases h
 ·rename_i args argTypes;split at h
  ·rename_i x y h1;have e1:args=#[x,y]:=by cases args;simp_all
   subst e1;unfold zLx at h;split at h
   ·rename_i k n k' n' q1 q2;cases h;have w1:=hx x (by simp[Op.operands,Call.operands]);have w2:=hx y (by simp[Op.operands,Call.operands]);rw[q1]at w1;rw[q2]at w2;simp only[V]at w1 w2;refine⟨_,?_,by simp only[V];rfl⟩;simp[execOp,resolve,invoke,builtin,w1,w2,Builtin.max_,Builtin.max2]
   ·cases h
  ·cases h
 ·rename_i args argTypes;split at h
  ·rename_i x y h1;have e1:args=#[x,y]:=by cases args;simp_all
   subst e1;unfold zLx at h;split at h
   ·rename_i k n k' n' q1 q2;cases h;have w1:=hx x (by simp[Op.operands,Call.operands]);have w2:=hx y (by simp[Op.operands,Call.operands]);rw[q1]at w1;rw[q2]at w2;simp only[V]at w1 w2;refine⟨_,?_,by simp only[V];rfl⟩;simp[execOp,resolve,invoke,builtin,w1,w2,Builtin.min_,Builtin.min2]
   ·cases h
  ·cases h
 ·rename_i args argTypes;split at h
  ·rename_i x t h1 h2;have e1:args=#[x]:=by cases args;simp_all
   have e2:argTypes=#[t]:=by cases argTypes;simp_all
   subst e1 e2;refine val (s:=Builtin.cap_ #[t] type #[a.eval x]) (zTM (hx x (by simp[Op.operands,Call.operands])) h) ?_;simp[execOp,resolve,invoke,builtin]
  ·cases h
 ·cases h
structure xB where
 H:List (Nat×yL)nx:Nat
 own:List Nat
 ns:Nat
 dirty:List Nat:=[]
def look:List (Nat×yL)->Nat->Option yL|[],_=>none|p::l,i=>bif Nat.beq i p.1 then some p.2 else look l i
theorem zFF{la:LA}{σ:vD}(h1:la.wr=[])(h2:la.al=[])(h3:la.use=[])(h4:la.new=0):la.app σ=σ:=by unfold LA.app;rw[h1,h2,h3,h4];show(vD.mk σ.H σ.own σ.ns).stamps [] 0=σ;rw[vD.stamps_zero]
theorem m1{ev:Operand->AV}{rd:List (Nat×yL)}{i:Nat}{X:yL}{v:AV}{σ:vD}:({ev:=ev,rd:=rd,al:=[(i,X)],v:=v}:LA).app σ=⟨up σ.H i X,σ.own,σ.ns⟩:=by unfold LA.app;show(vD.mk (up σ.H i X) σ.own σ.ns).stamps [] 0=_;rw[vD.stamps_zero]
theorem P0{ev:Operand->AV}{i:Nat}{X Y:yL}{v:AV}{σ:vD}:({ev:=ev,wr:=[(i,X,Y)],v:=v}:LA).app σ=⟨up σ.H i Y,σ.own,σ.ns⟩:=by unfold LA.app;show(vD.mk (up σ.H i Y) σ.own σ.ns).stamps [] 0=_;rw[vD.stamps_zero]
theorem zIY(σ:vD):σ.stamps [] 1=σ.stamp none true:=by
 unfold vD.stamps vD.stamp;congr 1;funext j;by_cases h:j=σ.ns;·subst h;simp
 ·have h':¬(σ.ns<=j/\j<σ.ns+1):=by omega
  simp only[if_neg h'];simp[h]
theorem zIZ(σ:vD)(k:Nat):σ.stamps [k] 1=σ.stamp (some k) true:=by
 unfold vD.stamps vD.stamp;congr 1;funext j;by_cases h:j=σ.ns;·subst h;simp
 ·have h':¬(σ.ns<=j/\j<σ.ns+1):=by omega
  simp only[if_neg h'];by_cases hj:j=k;·subst hj;simp[h]
  ·have hk:¬k=j:=λe=>hj e.symm;simp[h,hj,hk]
theorem zEx{ev:Operand->AV}{ns:Nat}{v:AV}{σ:vD}:({ev:=ev,ns:=ns,new:=1,v:=v}:LA).app σ=σ.stamp none true:=zIY σ
theorem zEw{ev:Operand->AV}{ns k:Nat}{v:AV}{σ:vD}:({ev:=ev,use:=[k],ns:=ns,new:=1,v:=v}:LA).app σ=σ.stamp (some k) true:=zIZ σ k
theorem P1{P:Program}{t:TypeId}{q:Bool×Nat}{G:Gh}{w:World}{cs:List AV}{vs:Array Value}{b off:Nat}{T:TypeId}{fr:Nat×Nat}{r:AV}(ht:tsz P t=some q)(hb:w.heap[b]?=some (.cells vs T fr))(hvp:fR G w cs vs.toList)(h:pE q (cs.drop off)=some r):∃u,(Instr.loadAt t (.pointer (some ⟨b,off,none⟩))).run P w=.ok u w/\V G w r u:=by have hvd:=hvp.drop off;unfold tsz at ht;cases hu:P.underlying t with|none=>simp[hu]at ht|some d=>cases hi:P.info? t with|none=>simp[hu,hi]at ht|some i=>
 simp only[hu,hi,Option.some.injEq]at ht;subst ht;unfold pE at h;have hcell:∀j v,(vs.toList.drop off)[j]?=some v->w.cell? ⟨b,off+j,none⟩=some v:=by intro j v hj;rw[List.getElem?_drop]at hj;simp[World.cell?,hb,<-hj]
 split at h;·rename_i n heq;simp only[Prod.mk.injEq]at heq;obtain⟨h1,rfl⟩:=heq;cases hle:Nat.ble i.size (cs.drop off).length with|false=>simp only[hle,cond_false,reduceCtorEq]at h|true=>
   simp only[hle,cond_true,Option.some.injEq]at h;subst h;have hle':i.size<=(cs.drop off).length:=Nat.le_of_ble_eq_true hle;have hl:=hvd.le;have hrun:=run_loadCells_list (P:=P) w ⟨b,off,none⟩ ((vs.toList.drop off).take i.size) (λj v hj=>by
    rw[Addr.add_lit];apply hcell;rw[List.getElem?_take]at hj;split at hj;·exact hj
    ·cases hj);have hl2:((vs.toList.drop off).take i.size).length=i.size:=by rw[List.length_take];omega
   rw[hl2]at hrun;refine⟨.agg ((vs.toList.drop off).take i.size).toArray,?_,by simp only[V];exact⟨_,rfl,hvd.take _ hle'⟩⟩;simp only[Instr.loadAt,Instr.sureAddr,loadVar,Sem.run_bind,Sem.run_pure,Result.andThen_ok,oY hu,h1,wF hi,hrun,if_true]
 ·rename_i n heq;simp only[Prod.mk.injEq]at heq;split at h
  ·rename_i c cs' hcs;cases h;rw[hcs]at hvd;obtain⟨us,rest,hus,hvl⟩:=hvd;cases us with|nil=>simp only[VL]at hvl|cons v vs'=>simp only[VL]at hvl;have:=hcell 0 v (by rw[hus];rfl);refine⟨v,?_,hvl.1⟩;simp only[Nat.add_zero]at this;simp[Instr.loadAt,Instr.sureAddr,loadVar,oY hu,heq.1,this]
  ·cases h
def eop(P:Program)(o:Op)(ev:Operand->AV)(s:xB):Option LA:=match o with
 |.alloc t=>match P.info? t with
  |some i=>match i.zero with|some z=>some {ev:=ev,al:=[(s.nx,.cells (z.cells.toList.map (ofV 8)))],v:=.mp s.nx 0}|none=>none
  |none=>none
 |.box _ x=>bif(ev x).sound then some {ev:=ev,al:=[(s.nx,.cells (rR (ev x)))],v:=.mp s.nx 0}else none|.load t a=>match tsz P t,ev a with
  |some q,.mp i off=>match look s.H i with
   |some (.cells cs)=>match pE q (cs.drop off)with|some r=>some {ev:=ev,rd:=[(i,.cells cs)],v:=r}|none=>none
   |_=>none
  |_,_=>none
 |.store t a x=>match P.info? t,ev a with
  |some ti,.mp i off=>match look s.H i with
   |some (.cells cs)=>bif(ev x).sound&&Nat.beq (rR (ev x)).length ti.size&&Nat.ble (off+ti.size) cs.length then some {ev:=ev,wr:=[(i,.cells cs,.cells (splice cs off (rR (ev x))))],v:=.val undef}else none|_=>none
  |_,_=>none
 |.buildSlice t len parts=>match P.underlying t with
  |some (.slice e)=>match P.info? e with
   |some ie=>match ie.zero with
    |some z=>bif Nat.beq z.cells.size ie.size&&Nat.ble (len*ie.size) 16777216&&Nat.ble 1 ie.size then match o8 (λi=>some (i*ie.size,ie.size)) ((List.range (len*ie.size)).map λj=>ofV 8 (z.cells.getD (j%z.cells.size) undef)) (O9 ev parts)with|some cs=>some {ev:=ev,v:=.sl cs len .full}|none=>none else none|none=>none
   |none=>none
  |_=>none
 |.makeSlice t l c=>match P.underlying t,ev l,ev c with
  |some (.slice e),.val (.int .i64 l),.val (.int .i64 c)=>match P.info? e with
   |some ie=>match ie.zero with|some z=>if l=c/\0<=l/\l*ie.bytes<=140737488355328/\l<=9223372036854775807/\z.cells.size=ie.size/\1<=ie.size then some {ev:=ev,v:=.sl ((List.range (l.toNat*ie.size)).map λj=>ofV 8 (z.cells.getD (j%z.cells.size) undef)) l.toNat .full}else none|none=>none
   |none=>none
  |_,_,_=>none
 |.makeMap _ none=>some {ev:=ev,al:=[(s.nx,.obj (.map #[] 0))],v:=.obj s.nx}|_=>none
theorem zPC{P:Program}{o:Oper}{ev:Operand->AV}{s:xB}{la:LA}(h:eop P o.op ev s=some la):wN P o la/\la.ev=ev:=by
 obtain⟨dst,op,type,pos,after,guard⟩:=o;simp only[eop]at h;split at h
 ·rename_i t;split at h
  ·rename_i i hi;split at h
   ·rename_i z hz;cases h;refine⟨wN.value λG σ w a hR _ hc=>?_,rfl⟩;have hn:σ.H s.nx=none:=hc.al _ _ (List.mem_singleton.2 rfl);refine⟨.pointer (some ⟨w.heap.size,0,none⟩),w.alloc (.cells z.cells t),G.addρ s.nx w.heap.size,?_,vL.alloc hR _ hn,?_,?_⟩;·simp[execOp,Instr.alloc,rT hi hz,newVar,newRow]
    ·rw[m1];have:=hR.alloc_cells _ z.cells.toList t (VL.map_ofV (V.ofV 8) _) hn;simpa using this
    ·simp only[V];exact⟨_,yR _ _ _,rfl⟩
   ·cases h
  ·cases h
 ·rename_i t x;cases hs:(ev x).sound with|false=>simp[hs]at h|true=>
   simp only[hs,cond_true,Option.some.injEq]at h;subst h;refine⟨wN.value λG σ w a hR hx hc=>?_,rfl⟩;have hn:σ.H s.nx=none:=hc.al _ _ (List.mem_singleton.2 rfl);obtain⟨hv,_⟩:=(hx x (by simp[Op.operands])).cells hs;refine⟨.pointer (some ⟨w.heap.size,0,none⟩),w.alloc (.cells (a.eval x).cells t),G.addρ s.nx w.heap.size,?_,vL.alloc hR _ hn,?_,?_⟩;·simp[execOp,Instr.box,newVar,newRow]
   ·rw[m1];have:=hR.alloc_cells _ _ t hv hn;simpa using this
   ·simp only[V];exact⟨_,yR _ _ _,rfl⟩
 ·rename_i t x;split at h
  ·rename_i q i off hq he;split at h
   ·rename_i cs hcs;split at h
    ·rename_i r hr;cases h;refine⟨wN.reads λG σ w a hR hx hrd=>?_,rfl⟩;have hX:=hrd _ _ (List.mem_singleton.2 rfl);obtain⟨b,hb,_,hblk⟩:=hR.look hX;obtain⟨vs,T,hh,hl⟩:=hblk;have hxx:=hx x (by simp[Op.operands]);rw[he]at hxx;simp only[V]at hxx;obtain⟨b',hb',hxe⟩:=hxx;rw[hb]at hb';cases hb';obtain⟨u,hu,hv⟩:=P1 hq hh hl hr;exact⟨u,by simp[execOp,hxe,hu],hv⟩
    ·cases h
   ·cases h
  ·cases h
 ·rename_i t x y;split at h
  ·rename_i ti i off hi he;split at h;·rename_i cs hcs;cases hcond:((ev y).sound&&Nat.beq (rR (ev y)).length ti.size&&Nat.ble (off+ti.size) cs.length)with|false=>simp only[hcond,cond_false,reduceCtorEq]at h|true=>
     simp only[hcond,cond_true,Option.some.injEq]at h;subst h;simp only[Bool.and_eq_true]at hcond;obtain⟨⟨c1,c2⟩,c3⟩:=hcond;replace c2:=Nat.eq_of_beq_eq_true c2;replace c3:=Nat.le_of_ble_eq_true c3;refine⟨wN.skip rfl λG σ w a hR hx hc=>?_,rfl⟩;have hX:=hc.wr _ _ _ (List.mem_singleton.2 rfl);obtain⟨b,hb,_,hblk⟩:=hR.look hX;obtain⟨vs,T,hh,hl⟩:=hblk;have hxx:V G w (ev x) (a.eval x):=hx x (by simp[Op.operands]);rw[he]at hxx;simp only[V]at hxx;obtain⟨b',hb',hxe⟩:=hxx;rw[hb]at hb';cases hb';obtain⟨hyv,hy1⟩:=(hx y (by simp[Op.operands])).cells c1;have hyl:=VL.length _ _ hyv;have hvl:=hl.le;have hsz:(a.eval y).cells.size=ti.size:=by rw[<-c2,<-hyl];simp
     have hst:=run_storeCells_at P b off T (a.eval y).cells.toList 0 vs w hh (by simp only[Array.length_toList]at hvl⊢;omega) hy1;simp only[Nat.add_zero]at hst;have hlen:vs.size<=(vs.toList.take off++(a.eval y).cells.toList++vs.toList.drop (off+(a.eval y).cells.toList.length)).length:=by simp only[List.length_append,List.length_take,List.length_drop,Array.length_toList]at hvl⊢;omega
     refine⟨w.setRow b (vs.toList.take off++(a.eval y).cells.toList++vs.toList.drop (off+(a.eval y).cells.toList.length)).toArray,G,?_,(vL.setRow hR hb _ (λo T' e=>by rw[hh]at e;cases e;simpa using hlen)),?_⟩
     ·simp only[execOp,Sem.run_bind,hxe,Instr.storeAt,Instr.sureAddr,Sem.run_pure,Result.andThen_ok,storeVar,wF hi];rw[if_neg (by simp[hsz])];simp only[Result.andThen_ok,hst]
     ·rw[P0];exact hR.setRow hb (by rw[hX];simp) _ _ hlen hh (fR.splice hl hyv off (by show off+(rR (ev y)).length<=cs.length;omega))
   ·cases h
  ·cases h
 ·rename_i t len parts;split at h
  ·rename_i e hut;split at h
   ·rename_i ie hie;split at h;·rename_i z hz;cases hcond:(Nat.beq z.cells.size ie.size&&Nat.ble (len*ie.size) 16777216&&Nat.ble 1 ie.size)with|false=>simp only[hcond,cond_false,reduceCtorEq]at h|true=>
      simp only[hcond,cond_true]at h;simp only[Bool.and_eq_true]at hcond;obtain⟨⟨c1,c2⟩,c3⟩:=hcond;replace c1:=Nat.eq_of_beq_eq_true c1;replace c2:=Nat.le_of_ble_eq_true c2;replace c3:=Nat.le_of_ble_eq_true c3;split at h
      ·rename_i cs hcs;cases h;refine⟨wN.value λG σ w a hR hx _=>?_,rfl⟩;have hVP:=VP.map (G:=G) (w:=w) (ev:=ev) (a:=a) parts.toList (λp hp=>hx p.2 (by simp[Op.operands];exact⟨p.1,by simpa using hp⟩));have hzl:∀m,VL G w ((List.range m).map λj=>ofV 8 (z.cells.getD (j%z.cells.size) undef)) ((List.range m).map λj=>z.cells.getD (j%z.cells.size) undef):=by intro m;have:=VL.map_ofV (G:=G) (w:=w) (f:=ofV 8) (V.ofV 8) ((List.range m).map λj=>z.cells.getD (j%z.cells.size) undef);simpa[List.map_map,Function.comp_def]using this
       have hz':((Array.range (len*ie.size)).map (z.cells[·%z.cells.size]!)).toList=(List.range (len*ie.size)).map λj=>z.cells.getD (j%z.cells.size) undef:=by rw[Array.toList_map,Array.toList_range];apply List.map_congr_left;intro j _;have hlt:j%z.cells.size<z.cells.size:=Nat.mod_lt _ (by omega);simp[hlt]
       obtain⟨r',hr',hv⟩:=G6 (G:=G) (w:=w) (O9 ev parts) (parts.toList.map λp=>(p.1,a.eval p.2)) _ ((Array.range (len*ie.size)).map (z.cells[·%z.cells.size]!)) cs hVP (by rw[hz'];exact hzl _) hcs;have hal:=hR.alloc_full cs r'.toList e hv;obtain⟨hE,hR',hC⟩:=hal;refine⟨.slice (some ⟨w.heap.size,0,none⟩) len len,w.alloc (.cells r'.toList.toArray e),_,?_,hE,by rw[zFF rfl rfl rfl rfl];exact hR',?_⟩
       ·have hq:¬len*ie.size>2^24:=by omega
        simp only[execOp,Sem.run_bind,Instr.buildSlice,run_underlying hut,Sem.run_pure,Result.andThen_ok,wF hie];rw[if_neg hq];have e2:(parts.map λ(i,x)=>(i,a.eval x)).toList=parts.toList.map λp=>(p.1,a.eval p.2):=by rw[Array.toList_map]
        by_cases h0:len*ie.size=0
        ·rw[if_pos h0];have h00:∀f:Nat->Value,Array.map f (Array.range 0)=#[]:=λf=>by simp[Array.range_zero']
         simp only[h0,h00]at hr';simp only[Sem.run_bind,Sem.run_pure,Result.andThen_ok,h0,e2,h00,hr'];simp[newRow]
        ·rw[if_neg h0];simp only[Sem.run_bind,Sem.run_pure,Result.andThen_ok,rT hie hz,e2,hr'];simp[newRow]
       ·simp only[V];exact⟨len,Nat.le_refl _,.inr ⟨_,0,rfl,hC,rfl⟩⟩
      ·cases h
    ·cases h
   ·cases h
  ·cases h
 ·rename_i t l c;split at h
  ·rename_i e l' c' hut hl hc;split at h
   ·rename_i ie hie;split at h
    ·rename_i z hz;split at h
     ·rename_i hcond;obtain⟨rfl,h0,hb,h63,hzs,h1⟩:=hcond;cases h;refine⟨wN.value λG σ w a hR hx _=>?_,rfl⟩;have hlx:V G w (ev l) (a.eval l):=hx l (by simp[Op.operands]);have hcx:V G w (ev c) (a.eval c):=hx c (by simp[Op.operands]);rw[hl]at hlx;rw[hc]at hcx;simp only[V]at hlx hcx;have hzl:∀m,VL G w ((List.range m).map λj=>ofV 8 (z.cells.getD (j%z.cells.size) undef)) ((List.range m).map λj=>z.cells.getD (j%z.cells.size) undef):=by intro m;have:=VL.map_ofV (G:=G) (w:=w) (f:=ofV 8) (V.ofV 8) ((List.range m).map λj=>z.cells.getD (j%z.cells.size) undef);simpa[List.map_map,Function.comp_def]using this
      have hal:=hR.alloc_full _ _ e (hzl (l'.toNat*ie.size));obtain⟨hE,hR',hC⟩:=hal;refine⟨.slice (some ⟨w.heap.size,0,none⟩) l'.toNat l'.toNat,w.alloc (.cells ((List.range (l'.toNat*ie.size)).map λj=>z.cells.getD (j%z.cells.size) undef).toArray e),_,?_,hE,by rw[zFF rfl rfl rfl rfl];exact hR',?_⟩
      ·have hz':madeCells z.cells (l'.toNat*ie.size)=((List.range (l'.toNat*ie.size)).map λj=>z.cells.getD (j%z.cells.size) undef).toArray:=by apply Array.ext';rw[madeCells,Array.toList_map,Array.toList_range];apply List.map_congr_left;intro j _;have hlt:j%z.cells.size<z.cells.size:=Nat.mod_lt _ (by omega);simp[hlt]
       have hm:=run_make (P:=P) w t e ie z hut hie hz .i64 .i64 l' l' h0 (Int.le_refl _) (by rw[Int.mul_comm];omega) h63;rw[hz']at hm;simp[execOp,hlx,hcx,hm]
      ·simp only[V];exact⟨l'.toNat,Nat.le_refl _,.inr ⟨_,0,rfl,hC,rfl⟩⟩
     ·cases h
    ·cases h
   ·cases h
  ·cases h
 ·rename_i t;cases h;refine⟨wN.value λG σ w a hR _ hc=>?_,rfl⟩;have hn:σ.H s.nx=none:=hc.al _ _ (List.mem_singleton.2 rfl);refine⟨.map (some w.heap.size),w.alloc (.map #[] 0),G.addρ s.nx w.heap.size,?_,vL.alloc hR _ hn,?_,?_⟩;·simp[execOp,Instr.makeMap]
  ·rw[m1];exact hR.alloc_obj (.map #[] 0) trivial hn
  ·simp only[V];exact⟨_,yR _ _ _,rfl⟩
 ·cases h
def mT(P:Program)(t t2:TypeId)(ev:Operand->AV)(a b:AV)(s:xB):Option LA:=match P.underlying t,a,b with
 |some (.slice e),.sl es n o,.sl es2 n2 _=>match P.info? e with
  |some ie=>match ie.zero with
   |some z=>bif Nat.beq t t2&&Nat.beq es.length (n*ie.size)&&Nat.beq es2.length (n2*ie.size)&&Nat.ble 1 ie.size&&Nat.beq z.cells.size ie.size&&Nat.ble ((n+n2)*ie.bytes) 140737488355328&&Nat.ble (n+n2) 4611686018427387904&&es2.all AV.one then bif Nat.beq n2 0 then some {ev:=ev,v:=.sl es n o}else match o with|.full=>some {ev:=ev,ns:=s.ns,new:=1,v:=.sl (es++es2) (n+n2) (.st s.ns ie.size)}|.st k sz=>bif s.own.any (Nat.beq k)&&Nat.beq sz ie.size then some {ev:=ev,use:=[k],ns:=s.ns,new:=1,v:=.sl (es++es2) (n+n2) (.st s.ns ie.size)}else none|.nl=>some {ev:=ev,ns:=s.ns,new:=1,v:=.sl (es++es2) (n+n2) (.st s.ns ie.size)}|_=>none else none|none=>none
  |none=>none
 |_,_,_=>none
theorem qZ{P:Program}{w:World}{t ty e:TypeId}{ie:TypeInfo}(ht:P.underlying t=some (.slice e))(hi:P.info? e=some ie)(base b2:Option Addr)(n cap c2:Nat)(hcap:n<=cap)(h2:b2=none\/∃a,b2=some a):(Builtin.append_ #[t,t] ty #[.slice base n cap,.slice b2 0 c2]).run P w=.ok (.slice base n cap) w:=by rcases h2 with rfl|⟨a,rfl⟩<;>cases base<;>simp[Builtin.append_,run_underlying ht,sizeOf,typeInfo,hi,Builtin.lenOf,Builtin.firstCells,hcap,loadCells,loadCellsFrom,storeCells]
theorem pW{P:Program}{w:World}{t ty e:TypeId}{i:TypeInfo}{T:TypeId}(ht:P.underlying t=some (.slice e))(hi:P.info? e=some i)(g off sLen sCap:Nat)(cur:Array Value)(hg:w.heap[g]?=some (.cells cur T (0,0)))(a:Addr)(m c:Nat)(news:List Value)(hl:news.length=m*i.size)(hnews:∀j u,news[j]?=some u->w.cell? (a.add j)=some u)(h1:∀u∈news,u.oneCell'=true)(hroom:sLen+m<=sCap)(hfit:off+sLen*i.size+news.length<=cur.size):(Builtin.append_ #[t,t] ty #[.slice (some ⟨g,off,none⟩) sLen sCap,.slice (some a) m c]).run P w=.ok (.slice (some ⟨g,off,none⟩) (sLen+m) sCap) (w.setRow g (cur.toList.take (off+sLen*i.size)++news++cur.toList.drop (off+sLen*i.size+news.length)).toArray):=by have hf:=run_firstCells_some (P:=P) w i.size m a m c news hl hnews;have hst:=run_storeCells_at P g (off+sLen*i.size) T news 0 cur w hg (by simpa using hfit) h1;simp only[Nat.add_zero]at hst;simp[Builtin.append_,run_underlying ht,sizeOf,typeInfo,hi,Builtin.lenOf,hroom,hf,Addr.add_lit,hst]
set_option maxHeartbeats 2000000 in theorem zJz{P:Program}{dst:Option Tmp}{type:TypeId}{pos:String}{after:Array Edge}{guard:Option (Nat×Bool)}{t t2:TypeId}{x y:Operand}{ev:Operand->AV}{s:xB}{la:LA}(h:mT P t t2 ev (ev x) (ev y) s=some la):wN P ⟨dst,.call {callee:=.builtin .append,args:=#[x,y],argTypes:=#[t,t2]},type,pos,after,guard⟩ la/\la.ev=ev:=by
 unfold mT at h;split at h
 ·rename_i e es n o es2 n2 o2 hut hex hey;split at h
  ·rename_i ie hie;split at h;·rename_i z hz;generalize hc:(Nat.beq t t2&&Nat.beq es.length (n*ie.size)&&Nat.beq es2.length (n2*ie.size)&&Nat.ble 1 ie.size&&Nat.beq z.cells.size ie.size&&Nat.ble ((n+n2)*ie.bytes) 140737488355328&&Nat.ble (n+n2) 4611686018427387904&&es2.all AV.one)=cond at h;cases cond with|false=>cases h|true=>
    simp only[cond_true]at h;simp only[Bool.and_eq_true]at hc;obtain⟨⟨⟨⟨⟨⟨⟨c0,c1⟩,c2⟩,c3⟩,c4⟩,c5⟩,c6⟩,c7⟩:=hc;replace c0:=Nat.eq_of_beq_eq_true c0;replace c1:=Nat.eq_of_beq_eq_true c1;replace c2:=Nat.eq_of_beq_eq_true c2;replace c3:=Nat.le_of_ble_eq_true c3;replace c4:=Nat.eq_of_beq_eq_true c4;replace c5:=Nat.le_of_ble_eq_true c5;replace c6:=Nat.le_of_ble_eq_true c6;subst c0;have exec:∀(a:Act)(w:World)(u:Value)(w':World),(Builtin.append_ #[t,t] type #[a.eval x,a.eval y]).run P w=.ok u w'->(execOp a.eval ⟨dst,.call {callee:=.builtin .append,args:=#[x,y],argTypes:=#[t,t]},type,pos,after,guard⟩).run P w=.ok (.value u) w':=by intro a w u w' hr;simp[execOp,resolve,invoke,builtin,hr]
    have opx:∀{Z:Op},Z=.call {callee:=.builtin .append,args:=#[x,y],argTypes:=#[t,t]}->x∈Z.operands/\y∈Z.operands:=by rintro _ rfl;simp[Op.operands,Call.operands]
    cases hn2:Nat.beq n2 0 with|true=>
     simp only[hn2,cond_true,Option.some.injEq]at h;subst h;replace hn2:=Nat.eq_of_beq_eq_true hn2;subst hn2;refine⟨wN.pure λG w a hx=>?_,rfl⟩;have hxx:=hx x (opx rfl).1;have hyy:=hx y (opx rfl).2;rw[hey]at hyy;have hxx':=hxx;rw[hex]at hxx';simp only[V]at hxx' hyy;obtain⟨cap,hcap,h1⟩:=hxx';obtain⟨cap2,_,h2⟩:=hyy;have e2:∃b2 c2,a.eval y=.slice b2 0 c2:=by rcases h2 with⟨_,_,_,h2,_⟩|⟨b,off,h2,_⟩<;>exact⟨_,_,h2⟩
     have e1:∃b1,a.eval x=.slice b1 n cap:=by rcases h1 with⟨_,rfl,rfl,h1,_⟩|⟨b,off,h1,_⟩<;>exact⟨_,h1⟩
     obtain⟨b2,c2',e2⟩:=e2;obtain⟨b1,e1⟩:=e1;refine⟨a.eval x,exec a w _ _ ?_,hex▸hxx⟩;rw[e1,e2];exact qZ hut hie b1 b2 n cap c2' hcap (by cases b2<;>simp)|false=>
     simp only[hn2,cond_false]at h;have hn2':0<n2:=by
      rcases Nat.eq_zero_or_pos n2 with e|e;·subst e;cases hn2
      ·exact e
     have src:∀(G:Gh)(w:World)(a:Act),V G w (ev y) (a.eval y)->∃b off c,a.eval y=.slice (some ⟨b,off,none⟩) n2 c/\VC G w es2 b off:=by
      intro G w a hyy;rw[hey]at hyy;simp only[V]at hyy;obtain⟨cap2,_,⟨_,e,_⟩|⟨b,off,e,hC,_⟩⟩:=hyy;·omega
      ·exact⟨b,off,cap2,e,hC⟩
     have grown:∀(G:Gh)(σ:vD)(w:World)(vs1 vs2:List Value)(old:Nat),yM G σ w->VL G w es vs1->VL G w es2 vs2->old<n+n2->∃G',vL G w G' (w.drew.alloc (.cells (vs1.toArray++vs2.toArray++Builtin.zeroCells z.cells (grownCap w (n+n2) old e-(n+n2))) e))/\yM G' (σ.stamp none true) (w.drew.alloc (.cells (vs1.toArray++vs2.toArray++Builtin.zeroCells z.cells (grownCap w (n+n2) old e-(n+n2))) e))/\V G' (w.drew.alloc (.cells (vs1.toArray++vs2.toArray++Builtin.zeroCells z.cells (grownCap w (n+n2) old e-(n+n2))) e)) (.sl (es++es2) (n+n2) (.st σ.ns ie.size)) (.slice (some ⟨w.heap.size,0,none⟩) (n+n2) (grownCap w (n+n2) old e)):=by
      intro G σ w vs1 vs2 old hR hv1 hv2 ho;have hge:=grownCap_ge w (n+n2) old e;have hl:(vs1++vs2).length=(n+n2)*ie.size:=by rw[List.length_append,VL.length _ _ hv1,VL.length _ _ hv2,c1,c2,Nat.add_mul]
      have hE:=vL.drew G w;obtain⟨q1,q2,q3⟩:=(yM.drew hR).alloc_live (es++es2) (vs1++vs2) (Builtin.zeroCells z.cells (grownCap w (n+n2) old e-(n+n2))).toList e (VL.append _ _ _ _ (VL.mono hE _ _ hv1) (VL.mono hE _ _ hv2));have harr:(vs1++vs2++(Builtin.zeroCells z.cells (grownCap w (n+n2) old e-(n+n2))).toList).toArray=vs1.toArray++vs2.toArray++Builtin.zeroCells z.cells (grownCap w (n+n2) old e-(n+n2)):=by apply Array.ext';simp
      rw[harr]at q1 q2 q3;refine⟨_,hE.trans q1,q2,?_⟩;simp only[V];refine⟨_,hge,.inr ⟨w.heap.size,0,rfl,q3,?_⟩⟩;refine⟨⟨_,yR _ _ _⟩,.inr ⟨by rw[List.length_append,c1,c2,Nat.add_mul],hR.fnew,?_⟩⟩;show up _ σ.ns _ σ.ns=_;rw[yR];have hzl:(Builtin.zeroCells z.cells (grownCap w (n+n2) old e-(n+n2))).toList.length=(grownCap w (n+n2) old e-(n+n2))*ie.size:=by rw[Array.length_toList,size_zeroCells,c4]
      have hes:(es++es2).length=(vs1++vs2).length:=by rw[hl,List.length_append,c1,c2,Nat.add_mul]
      have htot:(vs1++vs2).length+(Builtin.zeroCells z.cells (grownCap w (n+n2) old e-(n+n2))).toList.length=grownCap w (n+n2) old e*ie.size:=by rw[hl,hzl,<-Nat.add_mul];congr 1;omega
      rw[hes,htot];simp
     have rung:∀(G:Gh)(w:World)(a:Act)(b off cap:Nat),a.eval x=.slice (some ⟨b,off,none⟩) n cap->VC G w es b off->cap<n+n2->V G w (ev y) (a.eval y)->∃vs1 vs2,VL G w es vs1/\VL G w es2 vs2/\(Builtin.append_ #[t,t] type #[a.eval x,a.eval y]).run P w=.ok (.slice (some ⟨w.heap.size,0,none⟩) (n+n2) (grownCap w (n+n2) cap e)) (w.drew.alloc (.cells (vs1.toArray++vs2.toArray++Builtin.zeroCells z.cells (grownCap w (n+n2) cap e-(n+n2))) e)):=by
      intro G w a b off cap hxe hC hcap hyy;obtain⟨b2,off2,cc,hye,hC2⟩:=src G w a hyy;obtain⟨vs1,hv1,hcell1⟩:=VC.cells _ _ _ hC;obtain⟨vs2,hv2,hcell2⟩:=VC.cells _ _ _ hC2;refine⟨vs1,vs2,hv1,hv2,?_⟩;rw[hxe,hye];refine run_append_grow (P:=P) w t type e ie z hut hie hz ⟨b,off,none⟩ n cap vs1 (by rw[VL.length _ _ hv1,c1]) (λj v hj=>?_) ⟨b2,off2,none⟩ n2 cc vs2 (by rw[VL.length _ _ hv2,c2]) (λj v hj=>?_) hcap (by omega) (growslice_fits hcap c5)
      ·obtain⟨hj1,hj2⟩:=List.getElem?_eq_some_iff.1 hj;rw[Addr.add_lit,hcell1 j hj1,hj2]
      ·obtain⟨hj1,hj2⟩:=List.getElem?_eq_some_iff.1 hj;rw[Addr.add_lit,hcell2 j hj1,hj2]
     split at h
     ·cases h;refine⟨wN.value λG σ w a hR hx hcn=>?_,rfl⟩;have hns:s.ns=σ.ns:=hcn.ns (.inr (.inl (by simp)));have hxx:V G w (ev x) (a.eval x):=hx x (opx rfl).1;have hyy:V G w (ev y) (a.eval y):=hx y (opx rfl).2;rw[hex]at hxx;simp only[V]at hxx;obtain⟨cap,hcap,⟨rfl,rfl,rfl,hxe,_⟩|⟨b,off,hxe,hC,hfull⟩⟩:=hxx
      ·obtain⟨b2,off2,cc,hye,hC2⟩:=src G w a hyy;obtain⟨vs2,hv2,hcell2⟩:=VC.cells _ _ _ hC2;obtain⟨G',g1,g2,g3⟩:=grown G σ w [] vs2 0 hR (by simp[VL]) hv2 (by omega);have hr:(Builtin.append_ #[t,t] type #[.slice (aB (a.eval x)) 0 0,.slice (some ⟨b2,off2,none⟩) n2 cc]).run P w=.ok (.slice (some ⟨w.heap.size,0,none⟩) n2 (grownCap w n2 0 e)) (w.drew.alloc (.cells (vs2.toArray++Builtin.zeroCells z.cells (grownCap w n2 0 e-n2)) e)):=by cases aB (a.eval x)with|none=>exact run_append_nil (P:=P) w t type e ie z hut hie hz ⟨b2,off2,none⟩ n2 cc vs2 (by rw[VL.length _ _ hv2,c2]) (λj v hj=>by obtain⟨hj1,hj2⟩:=List.getElem?_eq_some_iff.1 hj;rw[Addr.add_lit,hcell2 j hj1,hj2]) hn2' (by omega) (by simp only[Nat.zero_add]at c5;omega)|some q=>have:=run_append_grow (P:=P) w t type e ie z hut hie hz q 0 0 [] (by simp) (λj v hj=>by simp at hj) ⟨b2,off2,none⟩ n2 cc vs2 (by rw[VL.length _ _ hv2,c2]) (λj v hj=>by obtain⟨hj1,hj2⟩:=List.getElem?_eq_some_iff.1 hj;rw[Addr.add_lit,hcell2 j hj1,hj2]) (by omega) (by omega) (growslice_fits (by omega) c5);simpa using this
       simp only[Nat.zero_add,Array.empty_append,List.nil_append]at g1 g2 g3;refine⟨_,_,G',exec a w _ _ (by rw[hxe,hye];exact hr),g1,by rw[zEx];exact g2,?_⟩;rw[hns];simpa using g3
      ·simp only[kR]at hfull;subst hfull;obtain⟨vs1,vs2,hv1,hv2,hr⟩:=rung G w a b off cap hxe hC (by omega) hyy;obtain⟨G',g1,g2,g3⟩:=grown G σ w vs1 vs2 cap hR hv1 hv2 (by omega);exact⟨_,_,G',exec a w _ _ hr,g1,by rw[zEx];exact g2,by rw[hns];exact g3⟩
     ·rename_i k sz;cases hk:(s.own.any (Nat.beq k)&&Nat.beq sz ie.size)with|false=>simp only[hk,cond_false,reduceCtorEq]at h|true=>
       simp only[hk,cond_true,Option.some.injEq]at h;subst h;simp only[Bool.and_eq_true]at hk;have hsz2:=Nat.eq_of_beq_eq_true hk.2;subst hsz2;refine⟨wN.value λG σ w a hR hx hcn=>?_,rfl⟩;have hns:s.ns=σ.ns:=hcn.ns (.inr (.inl (by simp)));have hko:σ.own k=true:=hcn.use k (List.mem_singleton.2 rfl);have hxx:V G w (ev x) (a.eval x):=hx x (opx rfl).1;have hyy:V G w (ev y) (a.eval y):=hx y (opx rfl).2;rw[hex]at hxx;simp only[V]at hxx;have drop:∀{G':Gh}{w':World},yM G' (σ.stamp none true) w'->yM G' (σ.stamp (some k) true) w':=by
        intro G' w' g2;refine yM.drop g2 (σ.stamp (some k) true).own (λj hj=>?_);simp only[vD.stamp]at hj⊢;split at hj;·rename_i q;rw[if_pos q]
        ·rename_i q;rw[if_neg q];split at hj;·cases hj
         ·simpa using hj
       obtain⟨cap,hcap,⟨rfl,rfl,rfl,hxe,_⟩|⟨b,off,hxe,hC,ho⟩⟩:=hxx
       ·obtain⟨b2,off2,cc,hye,hC2⟩:=src G w a hyy;obtain⟨vs2,hv2,hcell2⟩:=VC.cells _ _ _ hC2;obtain⟨G',g1,g2,g3⟩:=grown G σ w [] vs2 0 hR (by simp[VL]) hv2 (by omega);have hr:(Builtin.append_ #[t,t] type #[.slice (aB (a.eval x)) 0 0,.slice (some ⟨b2,off2,none⟩) n2 cc]).run P w=.ok (.slice (some ⟨w.heap.size,0,none⟩) n2 (grownCap w n2 0 e)) (w.drew.alloc (.cells (vs2.toArray++Builtin.zeroCells z.cells (grownCap w n2 0 e-n2)) e)):=by cases aB (a.eval x)with|none=>exact run_append_nil (P:=P) w t type e ie z hut hie hz ⟨b2,off2,none⟩ n2 cc vs2 (by rw[VL.length _ _ hv2,c2]) (λj v hj=>by obtain⟨hj1,hj2⟩:=List.getElem?_eq_some_iff.1 hj;rw[Addr.add_lit,hcell2 j hj1,hj2]) hn2' (by omega) (by simp only[Nat.zero_add]at c5;omega)|some q=>have:=run_append_grow (P:=P) w t type e ie z hut hie hz q 0 0 [] (by simp) (λj v hj=>by simp at hj) ⟨b2,off2,none⟩ n2 cc vs2 (by rw[VL.length _ _ hv2,c2]) (λj v hj=>by obtain⟨hj1,hj2⟩:=List.getElem?_eq_some_iff.1 hj;rw[Addr.add_lit,hcell2 j hj1,hj2]) (by omega) (by omega) (growslice_fits (by omega) c5);simpa using this
        simp only[Nat.zero_add,Array.empty_append,List.nil_append]at g1 g2 g3;refine⟨_,_,G',exec a w _ _ (by rw[hxe,hye];exact hr),g1,by rw[zEw];exact drop g2,?_⟩;rw[hns];simpa using g3
       ·have grow:cap<n+n2->∃u w' G',(execOp a.eval ⟨dst,.call {callee:=.builtin .append,args:=#[x,y],argTypes:=#[t,t]},type,pos,after,guard⟩).run P w=.ok (.value u) w'/\vL G w G' w'/\yM G' (({ev:=ev,use:=[k],ns:=s.ns,new:=1,v:=.sl (es++es2) (n+n2) (.st s.ns ie.size)}:LA).app σ) w'/\V G' w' (.sl (es++es2) (n+n2) (.st s.ns ie.size)) u:=by intro hlt;obtain⟨vs1,vs2,hv1,hv2,hr⟩:=rung G w a b off cap hxe hC hlt hyy;obtain⟨G',g1,g2,g3⟩:=grown G σ w vs1 vs2 cap hR hv1 hv2 (by omega);exact⟨_,_,G',exec a w _ _ hr,g1,by rw[zEw];exact drop g2,by rw[hns];exact g3⟩
        rcases ho with⟨_,⟨_,h0⟩|⟨ho1,hnF,ho2⟩⟩;·exact grow (by omega)
        ·by_cases hroom:n+n2<=cap
         ·have hft:off+es.length<off+cap*ie.size:=by
           have:n*ie.size+1<=cap*ie.size:=by have h1:(n+1)*ie.size<=cap*ie.size:=Nat.mul_le_mul_right _ (by omega);rw[Nat.succ_mul]at h1;omega
           omega
          obtain⟨b',f,tt,q1,q2|⟨hB,hρ,hL0,cur,T,hb,hsz⟩⟩:=hR.own k hko;·rw[ho2]at q1;cases q1;omega
          rw[ho2]at q1;cases q1;obtain⟨b2,off2,cc,hye,hC2⟩:=src G w a hyy;obtain⟨vs2,hv2,hcell2⟩:=VC.cells _ _ _ hC2;have hl2:vs2.length=n2*ie.size:=by rw[VL.length _ _ hv2,c2]
          have hmul:(n+n2)*ie.size<=cap*ie.size:=Nat.mul_le_mul_right _ hroom;rw[Nat.add_mul]at hmul;obtain⟨q1,q2,q3⟩:=hR.appendIn es2 vs2 hv2 hko ho2 hft (by rw[hl2];omega) hb;have hr:=pW (P:=P) (w:=w) (ty:=type) hut hie b off n cap cur hb ⟨b2,off2,none⟩ n2 cc vs2 hl2 (λj v hj=>by obtain⟨hj1,hj2⟩:=List.getElem?_eq_some_iff.1 hj;rw[Addr.add_lit,hcell2 j hj1,hj2]) (VL.all_one _ _ hv2 c7) hroom (by rw[hl2];omega);rw[<-c1]at hr;refine⟨_,_,_,exec a w _ _ (by rw[hxe,hye];exact hr),q1,by rw[zEw];exact q2,?_⟩;simp only[V];refine⟨cap,hroom,.inr ⟨b,off,rfl,VC.append _ _ _ _ (VC.mono q1 _ _ _ hC) q3,?_⟩⟩;refine⟨⟨_,by rw[hns];exact yR _ _ _⟩,.inr ⟨by rw[List.length_append,c1,c2,Nat.add_mul],hnF,?_⟩⟩;rw[hns];show up _ σ.ns _ σ.ns=_;rw[yR,List.length_append,hl2,c2,Nat.add_assoc]
         ·exact grow (by omega)
     ·cases h;refine⟨wN.value λG σ w a hR hx hcn=>?_,rfl⟩;have hns:s.ns=σ.ns:=hcn.ns (.inr (.inl (by simp)));have hxx:V G w (ev x) (a.eval x):=hx x (opx rfl).1;have hyy:V G w (ev y) (a.eval y):=hx y (opx rfl).2;rw[hex]at hxx;simp only[V]at hxx;obtain⟨cap,hcap,⟨rfl,rfl,rfl,hxe,hsp⟩|⟨b,off,hxe,hC,hfull⟩⟩:=hxx
      ·rw[show aB (a.eval x)=none from hsp]at hxe;obtain⟨b2,off2,cc,hye,hC2⟩:=src G w a hyy;obtain⟨vs2,hv2,hcell2⟩:=VC.cells _ _ _ hC2;obtain⟨G',g1,g2,g3⟩:=grown G σ w [] vs2 0 hR (by simp[VL]) hv2 (by omega);have hr:=run_append_nil (P:=P) w t type e ie z hut hie hz ⟨b2,off2,none⟩ n2 cc vs2 (by rw[VL.length _ _ hv2,c2]) (λj v hj=>by obtain⟨hj1,hj2⟩:=List.getElem?_eq_some_iff.1 hj;rw[Addr.add_lit,hcell2 j hj1,hj2]) hn2' (by omega) (by simp only[Nat.zero_add]at c5;omega);simp only[Nat.zero_add,Array.empty_append,List.nil_append]at g1 g2 g3;refine⟨_,_,G',exec a w _ _ (by rw[hxe,hye];exact hr),g1,by rw[zEx];exact g2,?_⟩;rw[hns];simpa using g3
      ·exact hfull.elim
     ·cases h
   ·cases h
  ·cases h
 ·cases h
def yFa(s:ByteArray):List AV:=s.data.toList.map λb=>.val (.int .u8 b.toNat)
def lQ(P:Program)(t t2:TypeId)(ev:Operand->AV)(a:AV)(bs:ByteArray)(s:xB):Option LA:=none
theorem zFG{P:Program}{dst:Option Tmp}{type:TypeId}{pos:String}{after:Array Edge}{guard:Option (Nat×Bool)}{t t2:TypeId}{x y:Operand}{ev:Operand->AV}{s:xB}{la:LA}{bs:ByteArray}(hey:ev y=.val (.string bs))(h:lQ P t t2 ev (ev x) bs s=some la):wN P ⟨dst,.call {callee:=.builtin .append,args:=#[x,y],argTypes:=#[t,t2]},type,pos,after,guard⟩ la/\la.ev=ev:=by unfold lQ at h;cases h
def zFH(P:Program)(t t2:TypeId)(ev:Operand->AV)(a b:AV)(s:xB):Option LA:=match b with|.val (.string bs)=>lQ P t t2 ev a bs s|b=>mT P t t2 ev a b s
theorem zPD{P:Program}{dst:Option Tmp}{type:TypeId}{pos:String}{after:Array Edge}{guard:Option (Nat×Bool)}{t t2:TypeId}{x y:Operand}{ev:Operand->AV}{s:xB}{la:LA}(h:zFH P t t2 ev (ev x) (ev y) s=some la):wN P ⟨dst,.call {callee:=.builtin .append,args:=#[x,y],argTypes:=#[t,t2]},type,pos,after,guard⟩ la/\la.ev=ev:=by
 unfold zFH at h;split at h
 ·rename_i bs hb;exact zFG hb h
 ·exact zJz h
def zEv(P:Program)(t:TypeId)(ev:Operand->AV)(a:AV)(s:xB):Option LA:=none
def zCd(ev:Operand->AV)(a:AV)(b:Bool)(s:xB):Option LA:=none
theorem zNz{P:Program}{dst:Option Tmp}{type:TypeId}{pos:String}{after:Array Edge}{guard:Option (Nat×Bool)}{t:TypeId}{x:Operand}{ev:Operand->AV}{s:xB}{la:LA}(h:zEv P t ev (ev x) s=some la):wN P ⟨dst,.range t x,type,pos,after,guard⟩ la/\la.ev=ev:=by unfold zEv at h;cases h
theorem zPE{P:Program}{dst:Option Tmp}{type:TypeId}{pos:String}{after:Array Edge}{guard:Option (Nat×Bool)}{b:Bool}{x:Operand}{ev:Operand->AV}{s:xB}{la:LA}(h:zCd ev (ev x) b s=some la):wN P ⟨dst,.next x b,type,pos,after,guard⟩ la/\la.ev=ev:=by unfold zCd at h;cases h
theorem zPF{a b:ByteArray}(h:(a==b)=true):a=b:=by cases a;cases b;have h':({data:=_}:ByteArray).beq {data:=_}=true:=h;unfold ByteArray.beq at h';simp at h';rw[h']
theorem zJy(a:ByteArray):(a==a)=true:=by show a.beq a=true;unfold ByteArray.beq;simp
def rE:TypeDesc->Bool|.string|.int _=>true|_=>false
def zNy:Option (Nat×Value)->Value->AV|some (_,v),_=>ofV 8 v|none,z=>ofV 8 z
def kS(P:Program)(t:TypeId)(ev:Operand->AV)(x k:AV)(ok:Bool)(s:xB):Option LA:=match P.underlying t,x,k with
 |some (.map kt et),.obj i,.val key=>match P.underlying kt,P.info? et,look s.H i with
  |some d,some ie,some (.obj (.map es clock))=>match ie.zero,Instr.findNow d key es.toList 0 with
   |some z,some r=>bif rE d then some {ev:=ev,rd:=[(i,.obj (.map es clock))],v:=if ok then .tup [zNy r z,.val (.bool r.isSome)]else zNy r z}else none|_,_=>none
  |_,_,_=>none
 |_,_,_=>none
theorem G7{P:Program}{kt:TypeId}{d:TypeDesc}(h:P.underlying kt=some d)(hd:rE d=true)(e:Bool)(n:Nat)(v:Value)(w:World):(Instr.checkKey e (n+1) kt v).run P w=.ok () w:=by simp only[Instr.checkKey,Sem.run_bind,run_underlying h,Result.andThen_ok];cases d<;>first|(cases hd;done)|rfl
theorem zJx{P:Program}{dst:Option Tmp}{type:TypeId}{pos:String}{after:Array Edge}{guard:Option (Nat×Bool)}{t:TypeId}{x y:Operand}{ok:Bool}{ev:Operand->AV}{s:xB}{la:LA}(h:kS P t ev (ev x) (ev y) ok s=some la):wN P ⟨dst,.lookup t x y ok,type,pos,after,guard⟩ la/\la.ev=ev:=by
 unfold kS at h;split at h
 ·rename_i kt et i key hut hex hey;split at h
  ·rename_i d ie es clock hd hie hl;split at h;·rename_i z r hz hf;cases hp:rE d with|false=>simp only[hp,cond_false,reduceCtorEq]at h|true=>
    simp only[hp,cond_true,Option.some.injEq]at h;subst h;refine⟨wN.reads λG σ w a hR hx hrd=>?_,rfl⟩;have hX:=hrd _ _ (List.mem_singleton.2 rfl);obtain⟨b,hb,_,hblk⟩:=hR.look hX;have hxx:V G w (ev x) (a.eval x):=hx x (by simp[Op.operands]);have hyy:V G w (ev y) (a.eval y):=hx y (by simp[Op.operands]);rw[hex]at hxx;rw[hey]at hyy;simp only[V]at hxx hyy;obtain⟨b',hb',hxe⟩:=hxx;rw[hb]at hb';cases hb';have hh:w.heap[b]?=some (.map es clock):=hblk.1;have hget:(getObj b).run P w=.ok (.map es clock) w:=by simp[getObj,Sem.run,hh]
    have hck:=G7 (P:=P) hd hp es.isEmpty 9999 key w;have hfk:(Instr.findKey kt key es.toList).run P w=.ok r w:=by simp only[Instr.findKey,Sem.run_bind,run_underlying hd,Result.andThen_ok,hf,Sem.run_pure]
    have hrun:∃q,(Instr.lookup t (a.eval x) (a.eval y) ok).run P w=.ok q w/\V G w (if ok then .tup [zNy r z,.val (.bool r.isSome)]else zNy r z) q:=by cases r with
     |none=>
      refine⟨if ok then .tuple #[z,.bool false]else z,?_,?_⟩;·simp only[Instr.lookup,Sem.run_bind,run_underlying hut,Result.andThen_ok,hxe,hyy,hget,Sem.run_pure,hck,hfk,rT hie hz]
      ·cases ok;·exact V.ofV 8 z
       ·simp only[V,if_true];exact⟨[z,.bool false],rfl,by simp only[VL,V];exact⟨V.ofV 8 z,rfl,trivial⟩⟩|some p=>
      obtain⟨j,v⟩:=p;refine⟨if ok then .tuple #[v,.bool true]else v,?_,?_⟩;·simp only[Instr.lookup,Sem.run_bind,run_underlying hut,Result.andThen_ok,hxe,hyy,hget,Sem.run_pure,hck,hfk]
      ·cases ok;·exact V.ofV 8 v
       ·simp only[V,if_true];exact⟨[v,.bool true],rfl,by simp only[VL,V];exact⟨V.ofV 8 v,rfl,trivial⟩⟩
    obtain⟨q,hq,hv⟩:=hrun;exact⟨q,by simp[execOp,hq],hv⟩
   ·cases h
  ·cases h
 ·cases h
theorem Z2{d:TypeDesc}{k k':Value}(hd:rE d=true)(h:Instr.sameNow d k k'=some true):Instr.sameBits 10000 k' k=true:=by
 unfold Instr.sameNow at h;split at h
 ·split at h
  ·rename_i hk;subst hk;simp only[Option.some.injEq,beq_iff_eq]at h;subst h;simp[Instr.sameBits]
  ·cases h
 ·simp only[Option.some.injEq]at h;have:=zPF h;subst this;simp only[Instr.sameBits,zJy]
 ·cases hd
 ·cases h
theorem G8{d:TypeDesc}{k:Value}:∀(es:List MapEntry)(i j:Nat)(v:Value),Instr.findNow d k es i=some (some (j,v))->i<=j/\∃e,es[j-i]?=some e/\Instr.sameNow d k e.key=some true
 |[],i,j,v,h=>by simp[Instr.findNow]at h|e::es,i,j,v,h=>by
  simp only[Instr.findNow]at h;split at h
  ·rename_i hs;simp only[Option.some.injEq,Prod.mk.injEq]at h;obtain⟨rfl,rfl⟩:=h;exact⟨Nat.le_refl _,e,by simp,hs⟩
  ·obtain⟨h1,e',h2,h3⟩:=G8 es (i+1) j v h;refine⟨by omega,e',?_,h3⟩;rw[show j-i=(j-(i+1))+1 by omega];simpa using h2
  ·cases h
def rU(P:Program)(t:TypeId)(ev:Operand->AV)(x k y:AV)(s:xB):Option LA:=match P.underlying t,x,k,y with
 |some (.map kt _),.obj i,.val key,.val val=>match P.underlying kt,look s.H i with
  |some d,some (.obj (.map es clock))=>match Instr.findNow d key es.toList 0 with
   |some r=>bif rE d then some {ev:=ev,v:=.val undef,wr:=[(i,.obj (.map es clock),match r with|some (j,_)=>.obj (.map (es.modify j λe=>{e with key:=key,val:=val}) clock)|none=>.obj (.map (es.push {key:=key,val:=val,born:=clock}) (clock+1)))]}else none|none=>none
  |_,_=>none
 |_,_,_,_=>none
theorem zCv{P:Program}{dst:Option Tmp}{type:TypeId}{pos:String}{after:Array Edge}{guard:Option (Nat×Bool)}{t:TypeId}{x y z:Operand}{ev:Operand->AV}{s:xB}{la:LA}(h:rU P t ev (ev x) (ev y) (ev z) s=some la):wN P ⟨dst,.mapUpdate t x y z,type,pos,after,guard⟩ la/\la.ev=ev:=by
 unfold rU at h;split at h
 ·rename_i kt et i key val hut hex hey hez;split at h
  ·rename_i d es clock hd hl;split at h;·rename_i r hf;cases hp:rE d with|false=>simp only[hp,cond_false,reduceCtorEq]at h|true=>
    simp only[hp,cond_true,Option.some.injEq]at h;subst h;refine⟨wN.skip rfl λG σ w a hR hx hc=>?_,rfl⟩;have hX:=hc.wr _ _ _ (List.mem_singleton.2 rfl);obtain⟨b,hb,_,hblk⟩:=hR.look hX;have hxx:V G w (ev x) (a.eval x):=hx x (by simp[Op.operands]);have hyy:V G w (ev y) (a.eval y):=hx y (by simp[Op.operands]);have hzz:V G w (ev z) (a.eval z):=hx z (by simp[Op.operands]);rw[hex]at hxx;rw[hey]at hyy;rw[hez]at hzz;simp only[V]at hxx hyy hzz;obtain⟨b',hb',hxe⟩:=hxx;rw[hb]at hb';cases hb';have hh:w.heap[b]?=some (.map es clock):=hblk.1;have hget:(getObj b).run P w=.ok (.map es clock) w:=by simp[getObj,Sem.run,hh]
    have hset:∀o,(setObj b o).run P w=.ok () {w with heap:=w.heap.setIfInBounds b o}:=by intro o;simp[setObj,Sem.run,hh]
    have hck:=G7 (P:=P) hd hp false 9999 key w;have hfk:(Instr.findKey kt key es.toList).run P w=.ok r w:=by simp only[Instr.findKey,Sem.run_bind,run_underlying hd,Result.andThen_ok,hf,Sem.run_pure]
    cases r with|none=>obtain⟨g1,g2⟩:=hR.setObj hb _ (.map (es.push {key:=key,val:=val,born:=clock}) (clock+1)) trivial hX;refine⟨_,G,?_,g1,by rw[P0];exact g2⟩;simp only[execOp,Sem.run_bind,Instr.mapUpdate,run_underlying hut,Result.andThen_ok,hxe,hyy,hzz,hget,hck,hfk,hset,Sem.run_pure]|some p=>
     obtain⟨j,v⟩:=p;obtain⟨g1,g2⟩:=hR.setObj hb _ (.map (es.modify j λe=>{e with key:=key,val:=val}) clock) trivial hX;refine⟨_,G,?_,g1,by rw[P0];exact g2⟩;obtain⟨_,e,he,hs⟩:=G8 _ _ _ _ hf;have hst:(Instr.keyThatStays (((es[j]?).map (·.key)).getD key) key).run P w=.ok key w:=by
      have:es[j]?=some e:=by simpa using he
      simp only[this,Option.map_some,Option.getD_some,Instr.keyThatStays,Z2 hp hs,if_true,Sem.run_pure]
     simp only[execOp,Sem.run_bind,Instr.mapUpdate,run_underlying hut,Result.andThen_ok,hxe,hyy,hzz,hget,hck,hfk,hset,hst,Sem.run_pure]
   ·cases h
  ·cases h
 ·cases h
def V5(P:Program)(o:Op)(ev:Operand->AV)(s:xB):Option LA:=match pop P o ev with|some v=>some {ev:=ev,v:=v}|none=>match o with
 |.lookup t x k ok=>kS P t ev (ev x) (ev k) ok s|.mapUpdate t m k x=>rU P t ev (ev m) (ev k) (ev x) s|.range t x=>zEv P t ev (ev x) s|.next x b=>zCd ev (ev x) b s|.call {callee:=.builtin .append,args,argTypes}=>match args.toList,argTypes.toList with|[x,y],[t,t2]=>zFH P t t2 ev (ev x) (ev y) s|_,_=>none
 |o=>eop P o ev s
theorem fV{P:Program}{o:Oper}{ev:Operand->AV}{s:xB}{la:LA}(h:V5 P o.op ev s=some la):wN P o la/\la.ev=ev:=by
 obtain⟨dst,op,type,pos,after,guard⟩:=o;have h':V5 P op ev s=some la:=h;clear h;unfold V5 at h';split at h'
 ·rename_i v hv;cases h';exact⟨zXC hv,rfl⟩
 ·rename_i hn;clear hn;split at h';·exact zJx h'
  ·exact zCv h'
  ·exact zNz h'
  ·exact zPE h'
  ·rename_i args argTypes;split at h'
   ·rename_i x y t t2 h1 h2;have e1:args=#[x,y]:=by cases args;simp_all
    have e2:argTypes=#[t,t2]:=by cases argTypes;simp_all
    subst e1 e2;exact zPD h'
   ·cases h'
  ·exact zPC h'
structure ST where
 env:List AV
 σ:vD
def eset:List AV->Option Tmp->AV->List AV|env,none,_=>env|env,some d,v=>env.set d v
structure lC(G:Gh)(S:ST)(a:Act)(w:World):Prop where
 st:yM G S.σ w
 env:VL G w S.env a.tmps.toList
 dfr:a.defers=[]
theorem VL.eset{G:Gh}{w:World}{env:List AV}{a:Act}(h:VL G w env a.tmps.toList)(d:Option Tmp){v:AV}{u:Value}(hv:V G w v u):VL G w (eset env d v) (a.put d u).tmps.toList:=by cases d with|none=>exact h|some d=>simp only[Ab.eset,Act.put,Array.toList_setIfInBounds];exact VL.set _ _ h d v u hv
theorem zEu(a:Act)(d:Option Tmp)(u:Value):(a.put d u).defers=a.defers:=by cases d<;>rfl
def aJ(ops:Array Oper)(env:List AV)(o:Oper):Option Bool:=match o.guard with|none=>some true|some (j,want)=>match(ops[j]?).bind (·.dst)with|none=>some false|some t=>match eget env t with|.val (.bool b)=>some (b==want)|.val _=>some false|_=>none
theorem zFI{G:Gh}{w:World}{ops:Array Oper}{env:List AV}{o:Oper}{a:Act}{b:Bool}(h:VL G w env a.tmps.toList)(hw:aJ ops env o=some b):Region.wanted o (yielded ops a.tmps)=b:=by
 unfold aJ at hw;unfold Region.wanted;split at hw;·rename_i hg;rw[hg];simpa using hw
 ·rename_i j want hg;rw[hg];simp only;split at hw
  ·rename_i hd;simp only[Option.some.injEq]at hw;subst hw;simp[yielded,hd]
  ·rename_i t hd;have hv:=V.eget env _ h t;have hget:a.tmps.toList.getD t undef=a.tmps.getD t undef:=by simp
   rw[hget]at hv;split at hw
   ·rename_i b' he;rw[he]at hv;simp only[V]at hv;simp only[Option.some.injEq]at hw;subst hw;simp only[yielded,hd,Option.bind_some];have:a.tmps[t]?=some (.bool b'):=by rw[Array.getD_eq_getD_getElem?]at hv;cases hx:a.tmps[t]? with|none=>rw[hx]at hv;cases hv|some z=>rw[hx]at hv;simp only[Option.getD_some]at hv;rw[hv]
    rw[this];cases b'<;>cases want<;>rfl
   ·rename_i v hnb he;rw[he]at hv;simp only[V]at hv;simp only[Option.some.injEq]at hw;subst hw;simp only[yielded,hd,Option.bind_some];cases hx:a.tmps[t]? with|none=>rfl|some z=>rw[Array.getD_eq_getD_getElem?,hx]at hv;simp only[Option.getD_some]at hv;subst hv;cases z<;>first|rfl|exact(hnb _ rfl).elim
   ·cases hw
def oX(P:Program)(ops:Array Oper)(i:Nat)(l:Option LA)(S S':ST):Prop:=∃o,ops[i]?=some o/\match l with|none=>aJ ops S.env o=some false/\S'=⟨eset S.env o.dst (.val undef),S.σ⟩|some la=>aJ ops S.env o=some true/\wN P o la/\(∀x∈o.op.operands,la.ev x=aev S.env x)/\la.can S.σ/\S'=⟨eset S.env o.dst la.v,la.app S.σ⟩
theorem oX.wp{P:Program}{ops:Array Oper}{i:Nat}{l:Option LA}{S S':ST}(h:oX P ops i l S S'){G:Gh}{a:Act}{w:World}(hR:lC G S a w){K:Act->World->Prop}{Q:Exit->Act->World->Prop}(hK:∀G' a' w',vL G w G' w'->lC G' S' a' w'->K a' w'):wpOp P ops Q i K a w:=by obtain⟨o,ho,h⟩:=h;unfold wpOp;simp only[ho];cases l with|none=>obtain⟨h1,rfl⟩:=h;rw[zFI hR.env h1];simp only[Bool.false_eq_true,if_false];exact hK G _ w (vL.refl G w) ⟨hR.st,VL.eset hR.env _ (by simp[V]),by rw[zEu];exact hR.dfr⟩|some la=>obtain⟨h1,h2,h3,h4,rfl⟩:=h;rw[zFI hR.env h1];simp only[if_true];refine .inl (h2 G S.σ w a K Q hR.st (λx hx=>by rw[h3 x hx];exact V.aev hR.env x) h4 λu G' w' hE hR' hv=>?_);exact hK G' _ w' hE ⟨hR',VL.eset (VL.mono hE _ _ hR.env) _ hv,by rw[zEu];exact hR.dfr⟩
def jD(P:Program)(ops:Array Oper):List (Nat×Option LA)->ST->ST->Prop|[],S,S'=>S=S'|p::l,S,S'=>∃S₁,oX P ops p.1 p.2 S S₁/\jD P ops l S₁ S'
theorem jD.wpOps{P:Program}{ops:Array Oper}{Q:Exit->Act->World->Prop}:∀(l:List (Nat×Option LA))(S S':ST),jD P ops l S S'->∀(G:Gh)(a:Act)(w:World),lC G S a w->(∀G' a' w',vL G w G' w'->lC G' S' a' w'->Q .normal a' w')->wpOps P ops Q (l.map (·.1)) a w|[],S,S',h,G,a,w,hR,hQ=>by simp only[jD]at h;subst h;exact hQ G a w (vL.refl G w) hR|p::l,S,S',h,G,a,w,hR,hQ=>by obtain⟨S₁,h1,h2⟩:=h;rw[List.map_cons,wpOps_cons];refine h1.wp hR λG' a' w' hE hR'=>?_;exact jD.wpOps l S₁ S' h2 G' a' w' hR' λG2 a2 w2 hE2 hR2=>hQ G2 a2 w2 (hE.trans hE2) hR2
theorem zNx{P:Program}{ops:Array Oper}{id:Nat}{Q:Exit->Act->World->Prop}{l:List (Nat×Option LA)}{S S':ST}(h:jD P ops l S S')(hl:l.map (·.1)=List.range ops.size){G:Gh}{a:Act}{w:World}(hR:lC G S a w)(hQ:∀G' a' w',vL G w G' w'->lC G' S' a' w'->Q .normal a' w'):(Code.region id ops false).wp P Q a w:=by refine wp_region ?_;rw[<-hl];exact jD.wpOps l S S' h G a w hR hQ
def zTO(l m:List Nat):Bool:=l.all λi=>!(m.any (Nat.beq i))
theorem lD{l m:List Nat}(h:zTO l m=true){i:Nat}(h1:i∈l)(h2:i∈m):False:=by unfold zTO at h;have:=List.all_eq_true.1 h i h1;simp only[Bool.not_eq_true',List.any_eq_false]at this;exact this i h2 (by simp)
def LA.rs(la:LA):List Nat:=la.rd.map (·.1)
def LA.ws(la:LA):List Nat:=la.wr.map (·.1)
def LA.as(la:LA):List Nat:=la.al.map (·.1)
def LA.stm(la:LA):Bool:=(!la.use.isEmpty||!Nat.beq la.new 0)||la.st
def LA.clear(a b:LA):Bool:=(b.ws++b.as).all λi=>Nat.blt i a.lo||Nat.ble a.hi i
theorem LA.clear_spec{a b:LA}(h:a.clear b=true){i:Nat}(h1:a.lo<=i)(h2:i<a.hi):i∉b.ws/\i∉b.as:=by
 have key:i∉b.ws++b.as:=λhi=>by have:=List.all_eq_true.1 h i hi;simp only[Bool.or_eq_true,Nat.blt_eq,Nat.ble_eq]at this;omega
 simp only[List.mem_append,not_or]at key;exact key
def zXE(a b:LA):Bool:=a.rc.all λq=>!(b.as.any (Nat.beq q.1))&&(!(b.ws.any (Nat.beq q.1))||b.kp.any λp=>Nat.beq p.1 q.1&&Nat.beq p.2 q.2.1)
theorem zCc{a b:LA}(h:zXE a b=true){i k:Nat}{v:AV}(hm:(i,k,v)∈a.rc):i∉b.as/\(i∈b.ws->(i,k)∈b.kp):=by
 have:=List.all_eq_true.1 h _ hm;simp only[Bool.and_eq_true,Bool.or_eq_true,Bool.not_eq_true',List.any_eq_false,List.any_eq_true]at this;obtain⟨h1,h2⟩:=this;refine⟨λe=>h1 i e (by simp),λe=>?_⟩;rcases h2 with h2|⟨⟨p1,p2⟩,hp,e1,e2⟩;·exact absurd (by simp) (h2 i e)
 ·have e1:=Nat.eq_of_beq_eq_true e1;have e2:=Nat.eq_of_beq_eq_true e2;simp only at e1 e2;subst e1 e2;exact hp
def iQ(a b:Option LA):Bool:=match a,b with|some a,some b=>zTO (a.rs++a.ws++a.as) (b.ws++b.as)&&zTO (a.ws++a.as) (b.rs++b.ws++b.as)&&!(a.stm&&b.stm)&&(a.clear b&&b.clear a)&&(zXE a b&&zXE b a)|_,_=>true
theorem dW{H:Nat->Option yL}:∀(l:List (Nat×yL)){i:Nat},i∉l.map (·.1)->fO H l i=H i|[],_,_=>rfl|p::l,i,h=>by simp only[List.map_cons,List.mem_cons,not_or]at h;simp only[fO];rw[xO _ _ h.1];exact dW l h.2
theorem zEt{H H':Nat->Option yL}:∀(l:List (Nat×yL)){i:Nat},i∈l.map (·.1)->fO H l i=fO H' l i
 |[],_,h=>by simp at h|p::l,i,h=>by
  simp only[fO];by_cases e:i=p.1;·subst e;rw[yR,yR]
  ·rw[xO _ _ e,xO _ _ e];simp only[List.map_cons,List.mem_cons]at h;exact zEt l (h.resolve_left e)
theorem sK{la:LA}{σ:vD}{i:Nat}(h1:i∉la.ws)(h2:i∉la.as):(la.app σ).H i=σ.H i:=by show fO (fO σ.H (la.wr.map λp=>(p.1,p.2.2))) la.al i=σ.H i;rw[dW _ h2,dW];simpa[LA.ws]using h1
theorem zLw{H:Nat->Option yL}:∀(l:List (Nat×yL)){i:Nat},i∈l.map (·.1)->∃Y,(i,Y)∈l/\fO H l i=some Y
 |[],_,h=>by simp at h|p::l,i,h=>by
  simp only[fO];by_cases e:i=p.1;·subst e;exact⟨p.2,by simp,yR _ _ _⟩
  ·rw[xO _ _ e];simp only[List.map_cons,List.mem_cons]at h;obtain⟨Y,h1,h2⟩:=zLw l (h.resolve_left e);exact⟨Y,List.mem_cons_of_mem _ h1,h2⟩
theorem zCb{la:LA}{σ:vD}{i:Nat}(h1:i∉la.as)(h2:i∈la.ws):∃X Y,(i,X,Y)∈la.wr/\(la.app σ).H i=some Y:=by obtain⟨Y,h3,h4⟩:=zLw (H:=σ.H) (la.wr.map λp=>(p.1,p.2.2)) (i:=i) (by simpa[LA.ws]using h2);obtain⟨⟨j,X,Z⟩,hm,e⟩:=List.mem_map.1 h3;simp only[Prod.mk.injEq]at e;obtain⟨rfl,rfl⟩:=e;refine⟨X,Z,hm,?_⟩;show fO (fO σ.H (la.wr.map λp=>(p.1,p.2.2))) la.al j=some Z;rw[dW _ h1,h4]
theorem zCa{la:LA}{σ σ':vD}{i:Nat}(h:i∈la.ws\/i∈la.as):(la.app σ).H i=(la.app σ').H i:=by
 show fO (fO σ.H (la.wr.map λp=>(p.1,p.2.2))) la.al i=fO (fO σ'.H (la.wr.map λp=>(p.1,p.2.2))) la.al i;by_cases h2:i∈la.as;·exact zEt _ h2
 ·rw[dW _ h2,dW _ h2];exact zEt _ (by simpa[LA.ws]using h.resolve_right h2)
theorem iR{la:LA}(h:la.stm=false):la.use=[]/\la.new=0/\la.st=false:=by simp only[LA.stm,Bool.or_eq_false_iff,Bool.not_eq_false',List.isEmpty_iff]at h;exact⟨h.1.1,Nat.eq_of_beq_eq_true h.1.2,h.2⟩
theorem P3{la:LA}(h:la.stm=false):la.use=[]/\la.new=0:=⟨(iR h).1,(iR h).2.1⟩
theorem tB{la:LA}{σ:vD}(h:la.stm=false):(la.app σ).own=σ.own/\(la.app σ).ns=σ.ns:=by obtain⟨h1,h2⟩:=P3 h;unfold LA.app;rw[h1,h2,vD.stamps_zero];exact⟨rfl,rfl⟩
theorem aK{la:LA}{σ σ':vD}(h1:σ.own=σ'.own)(h2:σ.ns=σ'.ns):(la.app σ).own=(la.app σ').own/\(la.app σ).ns=(la.app σ').ns:=by unfold LA.app vD.stamps;simp only[h1,h2,and_self]
theorem zXF{a b:LA}{σ:vD}(hm:iQ (some a) (some b)=true)(ha:a.can σ)(hb:b.can (a.app σ)):b.can σ:=by
 simp only[iQ,Bool.and_eq_true,Bool.not_eq_true',Bool.and_eq_false_iff]at hm;obtain⟨⟨⟨⟨h1,h2⟩,h3⟩,h4⟩,h5⟩:=hm;have hH:∀i,i∈b.rs++b.ws++b.as->(a.app σ).H i=σ.H i:=λi hi=>sK (λe=>lD h2 (List.mem_append_left _ e) hi) (λe=>lD h2 (List.mem_append_right _ e) hi);refine⟨λi X hX=>?_,λi X Y hX=>?_,λi X hX=>?_,λk hk=>?_,λhs=>?_,λi q1 q2=>?_,λi k v hX=>?_,hb.kp⟩;·rw[<-hH i (by simp only[LA.rs,List.mem_append,List.mem_map];exact .inl (.inl ⟨_,hX,rfl⟩))];exact hb.rd i X hX
 ·rw[<-hH i (by simp only[LA.ws,List.mem_append,List.mem_map];exact .inl (.inr ⟨_,hX,rfl⟩))];exact hb.wr i X Y hX
 ·rw[<-hH i (by simp only[LA.as,List.mem_append,List.mem_map];exact .inr ⟨_,hX,rfl⟩)];exact hb.al i X hX
 ·have:=hb.use k hk;rcases h3 with h3|h3;·rw[(tB h3).1]at this;exact this
  ·rw[(P3 h3).1]at hk;cases hk
 ·have:=hb.ns hs;rcases h3 with h3|h3;·rw[(tB h3).2]at this;exact this
  ·obtain⟨e1,e2,e3⟩:=iR h3;rcases hs with hs|hs|hs;·exact absurd e1 hs
   ·exact absurd e2 hs
   ·rw[e3]at hs;cases hs
 ·obtain⟨n1,n2⟩:=LA.clear_spec h4.2 q1 q2;have:=hb.hole i q1 q2;rwa[sK n1 n2]at this
 ·obtain⟨X',e1,e2⟩:=hb.rc i k v hX;obtain⟨n1,n2⟩:=zCc h5.2 hX;by_cases hw:i∈a.ws
  ·obtain⟨X,Y,hm',hY⟩:=zCb (σ:=σ) n1 hw;rw[hY]at e1;cases e1;exact⟨X,ha.wr i X _ hm',(ha.kp i k X _ (n2 hw) hm').trans e2⟩
  ·rw[sK hw n1]at e1;exact⟨X',e1,e2⟩
theorem zXG{a b:LA}{σ:vD}(hm:iQ (some a) (some b)=true)(hb:b.can σ)(ha:a.can σ):a.can (b.app σ):=by
 simp only[iQ,Bool.and_eq_true,Bool.not_eq_true',Bool.and_eq_false_iff]at hm;obtain⟨⟨⟨⟨h1,h2⟩,h3⟩,h4⟩,h5⟩:=hm;have hH:∀i,i∈a.rs++a.ws++a.as->(b.app σ).H i=σ.H i:=λi hi=>sK (λe=>lD h1 hi (List.mem_append_left _ e)) (λe=>lD h1 hi (List.mem_append_right _ e));refine⟨λi X hX=>?_,λi X Y hX=>?_,λi X hX=>?_,λk hk=>?_,λhs=>?_,λi q1 q2=>?_,λi k v hX=>?_,ha.kp⟩;·rw[hH i (by simp only[LA.rs,List.mem_append,List.mem_map];exact .inl (.inl ⟨_,hX,rfl⟩))];exact ha.rd i X hX
 ·rw[hH i (by simp only[LA.ws,List.mem_append,List.mem_map];exact .inl (.inr ⟨_,hX,rfl⟩))];exact ha.wr i X Y hX
 ·rw[hH i (by simp only[LA.as,List.mem_append,List.mem_map];exact .inr ⟨_,hX,rfl⟩)];exact ha.al i X hX
 ·rcases h3 with h3|h3;·rw[(P3 h3).1]at hk;cases hk
  ·rw[(tB h3).1];exact ha.use k hk
 ·rcases h3 with h3|h3
  ·obtain⟨e1,e2,e3⟩:=iR h3;rcases hs with hs|hs|hs;·exact absurd e1 hs
   ·exact absurd e2 hs
   ·rw[e3]at hs;cases hs
  ·rw[(tB h3).2];exact ha.ns hs
 ·obtain⟨n1,n2⟩:=LA.clear_spec h4.1 q1 q2;rw[sK n1 n2];exact ha.hole i q1 q2
 ·obtain⟨X',e1,e2⟩:=ha.rc i k v hX;obtain⟨n1,n2⟩:=zCc h5.1 hX;by_cases hw:i∈b.ws
  ·obtain⟨X,Y,hm',hY⟩:=zCb (σ:=σ) n1 hw;have:=hb.wr i X Y hm';rw[e1]at this;cases this;exact⟨Y,hY,(hb.kp i k _ Y (n2 hw) hm').symm.trans e2⟩
  ·exact⟨X',by rw[sK hw n1];exact e1,e2⟩
theorem zPG{a b:LA}{σ:vD}(hm:iQ (some a) (some b)=true):a.app (b.app σ)=b.app (a.app σ):=by
 simp only[iQ,Bool.and_eq_true,Bool.not_eq_true',Bool.and_eq_false_iff]at hm;obtain⟨⟨⟨⟨h1,h2⟩,h3⟩,h4⟩,h5⟩:=hm;have hH:(a.app (b.app σ)).H=(b.app (a.app σ)).H:=by
  funext i;by_cases ha:i∈a.ws\/i∈a.as
  ·have hb1:i∉b.ws:=λe=>lD h2 (List.mem_append.2 ha) (by simp[e]);have hb2:i∉b.as:=λe=>lD h2 (List.mem_append.2 ha) (by simp[e]);rw[sK hb1 hb2];exact zCa ha
  ·have ha':=not_or.1 ha;rw[sK ha'.1 ha'.2];by_cases hb:i∈b.ws\/i∈b.as;·exact zCa hb
   ·have hb':=not_or.1 hb;rw[sK hb'.1 hb'.2,sK hb'.1 hb'.2,sK ha'.1 ha'.2]
 have hO:(a.app (b.app σ)).own=(b.app (a.app σ)).own/\(a.app (b.app σ)).ns=(b.app (a.app σ)).ns:=by
  rcases h3 with h3|h3
  ·obtain⟨e1,e2⟩:=tB (σ:=b.app σ) h3;obtain⟨e3,e4⟩:=tB (σ:=σ) h3;obtain⟨e5,e6⟩:=aK (la:=b) e3 e4;exact⟨e1.trans e5.symm,e2.trans e6.symm⟩
  ·obtain⟨e1,e2⟩:=tB (σ:=a.app σ) h3;obtain⟨e3,e4⟩:=tB (σ:=σ) h3;obtain⟨e5,e6⟩:=aK (la:=a) e3 e4;exact⟨e5.trans e1.symm,e6.trans e2.symm⟩
 calc a.app (b.app σ)=⟨(a.app (b.app σ)).H,(a.app (b.app σ)).own,(a.app (b.app σ)).ns⟩:=rfl
  _=⟨(b.app (a.app σ)).H,(b.app (a.app σ)).own,(b.app (a.app σ)).ns⟩:=by rw[hH,hO.1,hO.2]
  _=b.app (a.app σ):=rfl
theorem fX:∀(env:List AV)(d t:Nat)(v:AV),t≠d->eget (env.set d v) t=eget env t|[],_,_,_,_=>rfl|a::r,0,0,_,h=>absurd rfl h|a::r,0,t+1,_,_=>rfl|a::r,d+1,0,_,_=>rfl|a::r,d+1,t+1,v,h=>by simp only[List.set_cons_succ,eget];exact fX r d t v (λe=>h (by omega))
theorem zPH{env:List AV}{dst:Option Tmp}{v:AV}{x:Operand}(h:∀d,dst=some d->x≠.tmp d):aev (eset env dst v) x=aev env x:=by cases dst with|none=>rfl|some d=>cases x with|tmp t=>have:t≠d:=λe=>h d rfl (by rw[e]);simp only[aev,eset,fX _ _ _ _ this]|_=>rfl
theorem m6{ops:Array Oper}{o:Oper}{env:List AV}{dst:Option Tmp}{v:AV}(h:∀d,dst=some d->d∉o.looksAt ops):aJ ops (eset env dst v) o=aJ ops env o:=by cases dst with|none=>rfl|some d=>unfold aJ;cases hg:o.guard with|none=>rfl|some g=>obtain⟨j,want⟩:=g;simp only;cases ht:(ops[j]?).bind (·.dst)with|none=>rfl|some t=>have hne:t≠d:=λe=>h d rfl (by subst e;simp[Oper.looksAt,hg,ht]);simp only[eset,fX _ _ _ _ hne]
theorem zCA{ops:Array Oper}{o:Oper}{env:List AV}{dst:Option Tmp}{v:AV}(h:∀d,dst=some d->d∉o.looksAt ops)(x:Operand)(hx:x∈o.op.operands):aev (eset env dst v) x=aev env x:=zPH λd hd hxd=>h d hd (by subst hxd;exact List.mem_append_left _ (List.mem_filterMap.2 ⟨.tmp d,by simpa using hx,rfl⟩))
theorem zNw{env:List AV}{d e:Option Tmp}{u v:AV}(h:∀x,d=some x->e≠some x):eset (eset env d u) e v=eset (eset env e v) d u:=by cases d with|none=>cases e<;>rfl|some x=>cases e with|none=>rfl|some y=>have hne:x≠y:=λq=>h x rfl (by rw[q]);simp only[eset];exact List.set_comm _ _ hne
def zPI(l:Option LA):AV:=match l with|none=>.val undef|some la=>la.v
def zEs(l:Option LA)(σ:vD):vD:=match l with|none=>σ|some la=>la.app σ
theorem zNv{a b:Option LA}{σ:vD}(hm:iQ a b=true):zEs a (zEs b σ)=zEs b (zEs a σ):=by cases a with|none=>rfl|some a=>cases b with|none=>rfl|some b=>exact zPG hm
theorem oX.out{P:Program}{ops:Array Oper}{i:Nat}{l:Option LA}{S S':ST}{o:Oper}(h:oX P ops i l S S')(ho:ops[i]?=some o):S'=⟨eset S.env o.dst (zPI l),zEs l S.σ⟩:=by obtain⟨o',ho',h⟩:=h;rw[ho]at ho';cases ho';cases l with|none=>exact h.2|some la=>exact h.2.2.2.2
theorem oX.move{P:Program}{ops:Array Oper}{i:Nat}{l:Option LA}{S S' T:ST}{o:Oper}(h:oX P ops i l S S')(ho:ops[i]?=some o)(h1:aJ ops T.env o=aJ ops S.env o)(h2:∀x∈o.op.operands,aev T.env x=aev S.env x)(h3:∀la,l=some la->la.can S.σ->la.can T.σ):oX P ops i l T ⟨eset T.env o.dst (zPI l),zEs l T.σ⟩:=by obtain⟨o',ho',h⟩:=h;rw[ho]at ho';cases ho';refine⟨o,ho,?_⟩;cases l with|none=>exact⟨h1.trans h.1,rfl⟩|some la=>obtain⟨q1,q2,q3,q4,_⟩:=h;exact⟨h1.trans q1,q2,λx hx=>(q3 x hx).trans (h2 x hx).symm,h3 la rfl q4,rfl⟩
theorem oX.can{P:Program}{ops:Array Oper}{i:Nat}{la:LA}{S S':ST}(h:oX P ops i (some la) S S'):la.can S.σ:=by obtain⟨_,_,h⟩:=h;exact h.2.2.2.1
theorem oX.swap{P:Program}{ops:Array Oper}{i j:Nat}{a b:Option LA}{S S₁ S₂:ST}{x y:Oper}(hx:ops[i]?=some x)(hy:ops[j]?=some y)(hap:x.apart ops y=true)(hm:iQ a b=true)(h1:oX P ops i a S S₁)(h2:oX P ops j b S₁ S₂):∃T,oX P ops j b S T/\oX P ops i a T S₂:=by
 obtain⟨c1,c2,c3⟩:=Oper.apart_spec hap;have e1:=h1.out hx;have e2:=h2.out hy;have g2:=h2.move (T:=S) hy (by rw[e1];exact(m6 c1).symm) (λz hz=>by rw[e1];exact(zCA c1 z hz).symm) (λlb hb hc=>by subst hb;rw[e1]at hc;cases a with|none=>exact hc|some la=>exact zXF hm h1.can hc);have g1:=h1.move (T:=⟨eset S.env y.dst (zPI b),zEs b S.σ⟩) hx (m6 c3) (λz hz=>zCA c3 z hz) (λla ha hc=>by subst ha;cases b with|none=>exact hc|some lb=>exact zXG hm g2.can hc);refine⟨_,g2,?_⟩;have:S₂=⟨eset (eset S.env y.dst (zPI b)) x.dst (zPI a),zEs a (zEs b S.σ)⟩:=by
  rw[e2,e1];congr 1;·exact zNw c2
  ·exact(zNv hm).symm
 rw[this];exact g1
def anc(m:List Nat)(o:Oper):Nat:=o.after.toList.foldl (λs e=>bif Region.binds .any e then Nat.lor (Nat.lor s (Nat.shiftLeft 1 e.on)) (m.getD e.on 0)else s) 0
def zEr:List Oper->List Nat->List Nat|[],m=>m|o::l,m=>zEr l (m++[anc m o])
def fY(ops:Array Oper)(x y:Nat×Option LA):Bool:=match ops[x.1]?,ops[y.1]? with|some o,some p=>o.apart ops p&&iQ x.2 y.2|_,_=>false
def V6(ops:Array Oper)(m:List Nat):List (Nat×Option LA)->Bool|[]=>true|x::l=>(l.all λy=>Nat.testBit (m.getD y.1 0) x.1||fY ops x y)&&V6 ops m l
def zJw(ops:Array Oper)(listed:Array Bool):Prop:=∀i o,listed.getD i false=true->ops[i]?=some o->∀e∈o.after,Region.binds .any e=true->listed.getD e.on false=true
theorem zFJ{listed:Array Bool}{m:List Nat}(hm:∀i j,listed.getD i false=true->Nat.testBit (m.getD i 0) j=true->listed.getD j false=true):∀(l:List Edge)(s:Nat),(∀j,Nat.testBit s j=true->listed.getD j false=true)->(∀e∈l,Region.binds .any e=true->listed.getD e.on false=true)->∀j,Nat.testBit (l.foldl (λs e=>bif Region.binds .any e then Nat.lor (Nat.lor s (Nat.shiftLeft 1 e.on)) (m.getD e.on 0)else s) s) j=true->listed.getD j false=true|[],s,hs,_,j,h=>hs j h|e::l,s,hs,hl,j,h=>by simp only[List.foldl_cons]at h;refine zFJ hm l _ ?_ (λe he=>hl e (by simp[he])) j h;intro k hk;cases hb:Region.binds .any e with|false=>simp only[hb,cond_false]at hk;exact hs k hk|true=>
 simp only[hb,cond_true]at hk;have he:=hl e (by simp) hb;have hk':Nat.testBit (s|||(1<<<e.on)|||m.getD e.on 0) k=true:=hk;rw[Nat.testBit_or,Nat.testBit_or]at hk';simp only[Bool.or_eq_true]at hk';rcases hk' with(hk'|hk')|hk';·exact hs k hk'
 ·rw[Nat.one_shiftLeft,Nat.testBit_two_pow]at hk';simp only[decide_eq_true_eq]at hk';rw[<-hk'];exact he
 ·exact hm e.on k he hk'
theorem zCB{ops:Array Oper}{listed:Array Bool}(hc:zJw ops listed):∀(l:List Oper)(m:List Nat),(∀k,l[k]?=ops[m.length+k]?)->(∀i j,listed.getD i false=true->Nat.testBit (m.getD i 0) j=true->listed.getD j false=true)->∀i j,listed.getD i false=true->Nat.testBit ((zEr l m).getD i 0) j=true->listed.getD j false=true
 |[],m,_,hm,i,j,hi,h=>hm i j hi h|o::l,m,hl,hm,i,j,hi,h=>by
  refine zCB hc l (m++[anc m o]) (λk=>?_) ?_ i j hi h
  ·have:=hl (k+1);simp only[List.getElem?_cons_succ,List.length_append,List.length_cons,List.length_nil]at this⊢;rw[this];congr 1;omega
  ·intro i j hi h;by_cases hlt:i<m.length
   ·rw[List.getD_eq_getElem?_getD,List.getElem?_append_left hlt,<-List.getD_eq_getElem?_getD]at h;exact hm i j hi h
   ·by_cases heq:i=m.length
    ·subst heq;have h0:ops[m.length]?=some o:=by have:=hl 0;simpa using this.symm
     have hg:(m++[anc m o]).getD m.length 0=anc m o:=by simp[List.getD]
     rw[hg]at h;exact zFJ hm o.after.toList 0 (λj hj=>by simp at hj) (λe he hb=>hc m.length o hi h0 e (by simpa using he) hb) j h
    ·have hg:(m++[anc m o]).getD i 0=0:=by rw[List.getD_eq_getElem?_getD,List.getElem?_eq_none (by simp;omega)];rfl
     rw[hg]at h;simp at h
def fZ(ops:Array Oper):Bool:=ops.toList.zipIdx.all λp=>p.1.after.toList.all λe=>!Region.binds .any e||Nat.blt e.on p.2
theorem zFK{ops:Array Oper}(h:fZ ops=true){i:Nat}{o:Oper}(ho:ops[i]?=some o){e:Edge}(he:e∈o.after)(hb:Region.binds .any e=true):e.on<i:=by unfold fZ at h;have:=List.all_eq_true.1 h (o,i) (by rw[List.mk_mem_zipIdx_iff_getElem?];simpa using ho);have:=List.all_eq_true.1 this e (by simpa using he);simp only[hb,Bool.not_true,Bool.false_or,Nat.blt_eq]at this;exact this
def zTP(ops:Array Oper)(m:List Nat)(x y:Nat×Option LA):Prop:=(Nat.testBit (m.getD y.1 0) x.1||fY ops x y)=true
theorem m7{ops:Array Oper}{m:List Nat}:∀(l:List (Nat×Option LA)),V6 ops m l=true->l.Pairwise (zTP ops m)|[],_=>.nil|x::l,h=>by simp only[V6,Bool.and_eq_true,List.all_eq_true]at h;exact .cons (λy hy=>h.1 y hy) (m7 l h.2)
theorem jD.front{P:Program}{ops:Array Oper}{p:Nat×Option LA}:∀(l₁ l₂:List (Nat×Option LA))(S S':ST),(∀x∈l₁,fY ops x p=true)->jD P ops (l₁++p::l₂) S S'->∃S₁,oX P ops p.1 p.2 S S₁/\jD P ops (l₁++l₂) S₁ S'|[],l₂,S,S',_,h=>h|x::l₁,l₂,S,S',ha,h=>by obtain⟨S₁,h1,h2⟩:=h;obtain⟨S₂,h3,h4⟩:=jD.front l₁ l₂ S₁ S' (λy hy=>ha y (by simp[hy])) h2;have hx:=ha x (by simp);unfold fY at hx;cases hi:ops[x.1]? with|none=>simp[hi]at hx|some o=>cases hj:ops[p.1]? with|none=>simp[hi,hj]at hx|some q=>simp only[hi,hj,Bool.and_eq_true]at hx;obtain⟨T,t1,t2⟩:=oX.swap hi hj hx.1 hx.2 h1 h3;exact⟨T,t1,S₂,t2,h4⟩
theorem zEq{P:Program}{ops:Array Oper}{Q:Exit->Act->World->Prop}{S':ST}(hed:fZ ops=true):∀(fuel:Nat)(l:List (Nat×Option LA))(listed:Array Bool)(S:ST)(G:Gh)(a:Act)(w:World),l.length<=fuel->listed.size=ops.size->(∀i,i<ops.size->(listed.getD i true=false↔i∈l.map (·.1)))->(l.map (·.1)).Nodup->(∀x∈l,x.1<ops.size)->zJw ops listed->l.Pairwise (zTP ops (zEr ops.toList []))->jD P ops l S S'->lC G S a w->(∀G' a' w',vL G w G' w'->lC G' S' a' w'->Q .normal a' w')->wpAny P .any ops Q fuel listed a w:=by
 intro fuel;have getD_eq:∀(listed:Array Bool)i,i<listed.size->listed.getD i true=listed.getD i false:=by intro listed i hi;simp[hi]
 have ready_mem:∀(listed:Array Bool)i,i∈Region.ready .any ops listed->i<ops.size/\listed.getD i true=false/\∀o,ops[i]?=some o->∀e∈o.after,Region.binds .any e=true->listed.getD e.on false=true:=by intro listed i hi;unfold Region.ready at hi;simp only[List.mem_filter,List.mem_range,Bool.and_eq_true,Bool.not_eq_true']at hi;obtain⟨h1,h2,h3⟩:=hi;refine⟨h1,h2,λo ho e he hb=>?_⟩;rw[ho]at h3;simp only[Option.map_some,Option.getD_some]at h3;have:=Array.all_eq_true_iff_forall_mem.1 h3 e he;simpa[hb]using this
 have empty:∀(l:List (Nat×Option LA))(listed:Array Bool),listed.size=ops.size->(∀i,i<ops.size->(listed.getD i true=false↔i∈l.map (·.1)))->(∀x∈l,x.1<ops.size)->Region.ready .any ops listed=[]->l=[]:=by intro l listed hsz hiff hlt hr;cases l with|nil=>rfl|cons x l=>
   exfalso;have:∀n,(∃i,i∈(x::l).map (·.1)/\i<=n)->∃i,i∈(x::l).map (·.1)/\∀j,j∈(x::l).map (·.1)->i<=j:=by intro n;induction n with|zero=>rintro⟨i,hi,h0⟩;exact⟨i,hi,λj _=>by omega⟩|succ n ih=>
     rintro⟨i,hi,h0⟩;by_cases hex:∃i,i∈(x::l).map (·.1)/\i<=n;·exact ih hex
     ·refine⟨i,hi,λj hj=>?_⟩;have:¬j<=n:=λh=>hex ⟨j,hj,h⟩;omega
   obtain⟨i,hi,hmin⟩:=this x.1 ⟨x.1,by simp,Nat.le_refl _⟩;have hilt:i<ops.size:=by obtain⟨y,hy,rfl⟩:=List.mem_map.1 hi;exact hlt y hy
   have hmem:i∈Region.ready .any ops listed:=by unfold Region.ready;simp only[List.mem_filter,List.mem_range,Bool.and_eq_true,Bool.not_eq_true'];refine⟨hilt,(hiff i hilt).2 hi,?_⟩;rw[Array.getElem?_eq_getElem hilt];simp only[Option.map_some,Option.getD_some];rw[Array.all_eq_true_iff_forall_mem];intro e he;cases hb:Region.binds .any e with|false=>rfl|true=>
     have hon:=zFK hed (Array.getElem?_eq_getElem hilt) he hb;have:¬listed.getD e.on true=false:=λh=>by have:=hmin e.on ((hiff e.on (by omega)).1 h);omega
     simp only[Bool.not_true,Bool.false_or];rw[<-getD_eq listed e.on (by omega)];simpa using this
   rw[hr]at hmem;cases hmem
 induction fuel with
 |zero=>intro l listed S G a w hlen hsz hiff hnd hlt hcl hpw hrun hR hQ;have hl:l=[]:=List.eq_nil_of_length_eq_zero (by omega);subst hl;simp only[jD]at hrun;subst hrun;refine⟨?_,hQ G a w (vL.refl G w) hR⟩;cases hr:Region.ready .any ops listed with|nil=>rfl|cons i r=>
   have hi:i∈Region.ready .any ops listed:=by rw[hr];simp
   obtain⟨h1,h2,_⟩:=ready_mem listed i hi;have:=(hiff i h1).1 h2;simp at this|succ fuel ih=>
  intro l listed S G a w hlen hsz hiff hnd hlt hcl hpw hrun hR hQ;refine⟨λhr=>?_,λi hi=>?_⟩
  ·have hl:=empty l listed hsz hiff hlt hr;subst hl;simp only[jD]at hrun;subst hrun;exact hQ G a w (vL.refl G w) hR
  ·obtain⟨h1,h2,h3⟩:=ready_mem listed i hi;obtain⟨p,hp,rfl⟩:=List.mem_map.1 ((hiff i h1).1 h2);obtain⟨l₁,l₂,rfl⟩:=List.append_of_mem hp;have hcl':zJw ops (listed.setIfInBounds p.1 true):=by
    intro j o hj ho e he hb;have hge:∀k,listed.getD k false=true->(listed.setIfInBounds p.1 true).getD k false=true:=by
     intro k hk;by_cases hkp:k=p.1;·subst hkp;simp[hsz,h1]
     ·simpa[Array.getElem?_setIfInBounds_ne (λq=>hkp q.symm)]using hk
    by_cases hjp:j=p.1;·subst hjp;exact hge _ (h3 o ho e he hb)
    ·exact hge _ (hcl j o (by simpa[Array.getElem?_setIfInBounds_ne (λq=>hjp q.symm)]using hj) ho e he hb)
   have hnd':=hnd;simp only[List.map_append,List.map_cons]at hnd';have happ:∀x∈l₁,fY ops x p=true:=by
    intro x hx;have hfree:zTP ops (zEr ops.toList []) x p:=(List.pairwise_append.1 hpw).2.2 x hx p (by simp);unfold zTP at hfree;rw[Bool.or_eq_true]at hfree;rcases hfree with hbit|hap
    ·exfalso;have hself:(listed.setIfInBounds p.1 true).getD p.1 false=true:=by simp[hsz,h1]
     have:=zCB hcl' ops.toList [] (λk=>by simp) (λi j _ hj=>by simp at hj) p.1 x.1 hself hbit;have hne:x.1≠p.1:=by rw[List.nodup_append]at hnd';exactλe=>hnd'.2.2 x.1 (List.mem_map.2 ⟨x,hx,rfl⟩) p.1 (by simp) e
     have hx1:listed.getD x.1 false=true:=by simpa[Array.getElem?_setIfInBounds_ne (λq=>hne q.symm)]using this
     have hxl:listed.getD x.1 true=false:=(hiff x.1 (hlt x (by simp[hx]))).2 (List.mem_map.2 ⟨x,by simp[hx],rfl⟩);rw[getD_eq listed x.1 (by have:=hlt x (by simp[hx]);omega)]at hxl;rw[hx1]at hxl;cases hxl
    ·exact hap
   obtain⟨S₁,t1,t2⟩:=jD.front l₁ l₂ S S' happ hrun;refine t1.wp hR λG' a' w' hE hR'=>?_;have hsub:(l₁++l₂).Sublist (l₁++p::l₂):=List.Sublist.append (List.Sublist.refl _) (List.sublist_cons_self _ _);refine ih (l₁++l₂) _ S₁ G' a' w' (by simp at hlen⊢;omega) (by simpa using hsz) (λj hj=>?_) ((hsub.map _).nodup hnd) (λx hx=>hlt x (hsub.subset hx)) hcl' (hpw.sublist hsub) t2 hR' (λG2 a2 w2 hE2 hR2=>hQ G2 a2 w2 (hE.trans hE2) hR2);by_cases hjp:j=p.1
   ·subst hjp;rw[List.nodup_append]at hnd';obtain⟨_,n2,n3⟩:=hnd';rw[List.nodup_cons]at n2;simp only[List.map_append,List.mem_append];constructor;·intro h;simp[hsz,h1]at h
    ·rintro(h|h);·exact absurd rfl (n3 p.1 h p.1 (by simp))
     ·exact absurd h n2.1
   ·have:(listed.setIfInBounds p.1 true).getD j true=listed.getD j true:=by simp[Array.getElem?_setIfInBounds_ne (λq=>hjp q.symm)]
    rw[this,hiff j hj];simp only[List.map_append,List.map_cons,List.mem_append,List.mem_cons];constructor
    ·rintro(h|rfl|h);·exact .inl h
     ·exact absurd rfl hjp
     ·exact .inr h
    ·rintro(h|h);·exact .inl h
     ·exact .inr (.inr h)
theorem m9{P:Program}{ops:Array Oper}{id:Nat}{Q:Exit->Act->World->Prop}{l:List (Nat×Option LA)}{S S':ST}(hm:P.follows .mixedOrders=true)(hed:fZ ops=true)(hfree:V6 ops (zEr ops.toList []) l=true)(h:jD P ops l S S')(hl:l.map (·.1)=List.range ops.size){G:Gh}{a:Act}{w:World}(hR:lC G S a w)(hQ:∀G' a' w',vL G w G' w'->lC G' S' a' w'->Q .normal a' w'):(Code.region id ops true).wp P Q a w:=by
 have hR':lC G S a w.drew:=⟨yM.drew hR.st,VL.mono (vL.drew G w) _ _ hR.env,hR.dfr⟩;refine wp_region_any hm ?_;refine zEq hed ops.size l (Array.replicate ops.size false) S G a w.drew (by rw[<-List.length_map (f:=(·.1)),hl];simp) (by simp) (λi hi=>?_) (by rw[hl];exact List.nodup_range) (λx hx=>?_) (λi o hi _ _ _ _=>?_) (m7 l hfree) h hR' (λG2 a2 w2 hE2 hR2=>hQ G2 a2 w2 ((vL.drew G w).trans hE2) hR2);·rw[hl];simp[hi]
 ·have:x.1∈l.map (·.1):=List.mem_map.2 ⟨x,hx,rfl⟩;rw[hl]at this;simpa using this
 ·by_cases hlt:i<ops.size;·simp[hlt]at hi
  ·simp[hlt]at hi
inductive AX where|normal|exit(id:Nat)|ret
def AX.toExit:AX->Exit|.normal=>.normal|.exit i=>.exit i|.ret=>.ret
def yAX(G:Gh)(w:World)(Q:AX->ST->Prop):Exit->Act->World->Prop:=λe a' w'=>∃x S' G',e=AX.toExit x/\Q x S'/\vL G w G' w'/\lC G' S' a' w'
def Cw(P:Program)(c:Code)(S:ST)(Q:AX->ST->Prop):Prop:=∀(G:Gh)(a:Act)(w:World),lC G S a w->c.wp P (yAX G w Q) a w
theorem Cw.skip{P:Program}{S:ST}{Q:AX->ST->Prop}(h:Q .normal S):Cw P .skip S Q:=λG _ w hR=>wp_skip ⟨.normal,S,G,rfl,h,vL.refl G w,hR⟩
theorem Cw.label{P:Program}{l:Nat}{S:ST}{Q:AX->ST->Prop}(h:Q .normal S):Cw P (.label l) S Q:=λG _ w hR=>wp_label ⟨.normal,S,G,rfl,h,vL.refl G w,hR⟩
theorem Cw.exit{P:Program}{i:Nat}{S:ST}{Q:AX->ST->Prop}(h:Q (.exit i) S):Cw P (.exit i) S Q:=λG _ w hR=>wp_exit ⟨.exit i,S,G,rfl,h,vL.refl G w,hR⟩
theorem Cw.ret{P:Program}{S:ST}{Q:AX->ST->Prop}(h:Q .ret S):Cw P .ret S Q:=λG _ w hR=>wp_ret ⟨.ret,S,G,rfl,h,vL.refl G w,hR⟩
theorem Cw.region{P:Program}{ops:Array Oper}{id:Nat}{l:List (Nat×Option LA)}{S S':ST}{Q:AX->ST->Prop}(h:jD P ops l S S')(hl:l.map (·.1)=List.range ops.size)(hQ:Q .normal S'):Cw P (.region id ops false) S Q:=λ_ _ _ hR=>zNx h hl hR λG' _ _ hE hR'=>⟨.normal,S',G',rfl,hQ,hE,hR'⟩
theorem Cw.draw{P:Program}{ops:Array Oper}{id:Nat}{l:List (Nat×Option LA)}{S S':ST}{Q:AX->ST->Prop}(hm:P.follows .mixedOrders=true)(hed:fZ ops=true)(hfree:V6 ops (zEr ops.toList []) l=true)(h:jD P ops l S S')(hl:l.map (·.1)=List.range ops.size)(hQ:Q .normal S'):Cw P (.region id ops true) S Q:=λ_ _ _ hR=>m9 hm hed hfree h hl hR λG' _ _ hE hR'=>⟨.normal,S',G',rfl,hQ,hE,hR'⟩
def zNu(P:Program)(f:FuncId)(args:List AV)(la:LA):Prop:=∀(G:Gh)(σ:vD)(w:World)(cargs:Array Value),yM G σ w->VL G w args cargs.toList->la.can σ->Calls P f cargs w λe w'=>∃u G',e=.returned u/\vL G w G' w'/\yM G' (la.app σ) w'/\V G' w' la.v u
theorem wN.call{P:Program}{dst:Option Tmp}{type:TypeId}{pos:String}{after:Array Edge}{guard:Option (Nat×Bool)}{g:Operand}{args:Array Operand}{argTypes:Array TypeId}{la:LA}{f:FuncId}{first caps:List AV}{fn:Func}(hg:la.ev g=.clo f first caps)(hf:P.funcs[f]?=some fn)(hname:(fn.name=="runtime.NumGoroutine")=false)(hb:fn.body.isNone=false)(h:zNu P f (first++args.toList.map la.ev++caps) la):wN P ⟨dst,.call {callee:=.value g,args:=args,argTypes:=argTypes},type,pos,after,guard⟩ la:=by
 intro G σ w a K Q hR hx hc hK;have hgx:=hx g (by simp[Op.operands,Call.operands]);rw[hg]at hgx;simp only[V]at hgx;obtain⟨l,r,hge,hl,hr⟩:=hgx;have hargs:VL G w (args.toList.map la.ev) (args.toList.map a.eval):=VL.mapv _ λp hp=>hx p (by simp[Op.operands,Call.operands];exact .inr (by simpa using hp));have hrun:(execOp a.eval ⟨dst,.call {callee:=.value g,args:=args,argTypes:=argTypes},type,pos,after,guard⟩).run P w=.ok (.enter f (l.toArray++args.map a.eval++r.toArray)) w:=by
  simp only[execOp,resolve,hge,Deferred.ofValue,Sem.run_bind,Sem.run_pure,Result.andThen_ok,invoke,callFunc];have hname':¬fn.name="runtime.NumGoroutine":=by simpa using hname
  have hb':¬fn.body=none:=by intro e;rw[e]at hb;cases hb
  simp[program,Sem.run,hf,hname',hb']
 unfold Oper.wp;rw[hrun,Oper.upon_enter];refine(h G σ w (l.toArray++args.map a.eval++r.toArray) hR ?_ hc).mono λe w' he=>?_;·have:=VL.append _ _ _ _ (VL.append _ _ _ _ hl hargs) hr;simpa using this
 ·obtain⟨u,G',rfl,h1,h2,h3⟩:=he;exact hK u G' w' h1 h2 h3
def j4(P:Program)(H:Nat->Option yL)(env:List AV):ResultVar->Option AV|.tmp t=>some (eget env t)|.cell a t=>match tsz P t,eget env a with
 |some q,.mp i off=>match H i with|some (.cells cs)=>pE q (cs.drop off)|_=>none
 |_,_=>none
def aL(P:Program)(H:Nat->Option yL)(env:List AV):List ResultVar->Option (List AV)|[]=>some []|r::l=>match j4 P H env r,aL P H env l with|some v,some vs=>some (v::vs)|_,_=>none
def j5(P:Program)(H:Nat->Option yL)(env:List AV)(rs:List ResultVar):Option AV:=match aL P H env rs with|some [v]=>some v|some vs=>some (.tup vs)|none=>none
theorem zPJ{P:Program}{S:ST}{G:Gh}{a:Act}{w:World}(hR:lC G S a w){r:ResultVar}{v:AV}(h:j4 P S.σ.H S.env r=some v):∃u,(match r with|.tmp t=>(pure (a.tmps.getD t undef):Sem Value)|.cell b t=>do loadVar t (<-asAddr (a.tmps.getD b undef))).run P w=.ok u w/\V G w v u:=by
 have hget:∀t,V G w (eget S.env t) (a.tmps.getD t undef):=by intro t;have:=V.eget S.env _ hR.env t;simpa using this
 cases r with|tmp t=>simp only[j4,Option.some.injEq]at h;subst h;exact⟨_,rfl,hget t⟩|cell b t=>
  simp only[j4]at h;split at h
  ·rename_i q i off hq he;split at h
   ·rename_i cs hcs;have hb:=hget b;rw[he]at hb;simp only[V]at hb;obtain⟨c,hc,hbe⟩:=hb;obtain⟨c',hc',_,hblk⟩:=hR.st.look hcs;rw[hc]at hc';cases hc';obtain⟨vs,T,hh,hl⟩:=hblk;obtain⟨u,hu,hv⟩:=P1 hq hh hl h;refine⟨u,?_,hv⟩;simp only[Instr.loadAt,Instr.sureAddr,Sem.run_bind,Sem.run_pure,Result.andThen_ok]at hu;simp only[hbe,asAddr,Sem.run_bind,Sem.run_pure,Result.andThen_ok,hu]
   ·cases h
  ·cases h
theorem zFL{P:Program}{S:ST}{G:Gh}{a:Act}{w:World}(hR:lC G S a w):∀(rs:List ResultVar)(vs:List AV),aL P S.σ.H S.env rs=some vs->∃us,(rs.mapM λ(r:ResultVar)=>match r with|.tmp t=>(pure (a.tmps.getD t undef):Sem Value)|.cell b t=>do loadVar t (<-asAddr (a.tmps.getD b undef))).run P w=.ok us w/\VL G w vs us
 |[],vs,h=>by simp only[aL,Option.some.injEq]at h;subst h;exact⟨[],by simp,by simp[VL]⟩|r::rs,vs,h=>by
  simp only[aL]at h;split at h
  ·rename_i v vs' h1 h2;cases h;obtain⟨u,hu,hv⟩:=zPJ hR h1;obtain⟨us,hus,hvs⟩:=zFL hR rs vs' h2;refine⟨u::us,?_,by simp only[VL];exact⟨hv,hvs⟩⟩;simp only[List.mapM_cons,Sem.run_bind,hu,Result.andThen_ok,hus,Sem.run_pure]
  ·cases h
theorem zTQ{P:Program}{S:ST}{G:Gh}{a:Act}{w:World}(hR:lC G S a w){fn:Func}{v:AV}(h:j5 P S.σ.H S.env fn.results.toList=some v):∃u,(results fn a.tmps).run P w=.ok u w/\V G w v u:=by
 unfold j5 at h;have key:∀vs,aL P S.σ.H S.env fn.results.toList=some vs->∃us:List Value,(results fn a.tmps).run P w=.ok (if h:us.toArray.size=1 then us.toArray[0]else .tuple us.toArray) w/\VL G w vs us:=by intro vs hvs;obtain⟨us,hus,hv⟩:=zFL hR _ _ hvs;refine⟨us,?_,hv⟩;unfold results;rw[Array.mapM_eq_mapM_toList];simp only[Sem.run_bind,Sem.run_map,Sem.run_pure];erw[hus];rfl
 split at h
 ·rename_i v' hvs;cases h;obtain⟨us,h1,h2⟩:=key _ hvs;have hl:=VL.length _ _ h2;match us,hl,h1,h2 with|[u],_,h1,h2=>simp only[VL]at h2;exact⟨u,by simpa using h1,h2.1⟩
 ·rename_i vs hne hvs;cases h;obtain⟨us,h1,h2⟩:=key _ hvs;have hl:=VL.length _ _ h2;have hne':¬us.toArray.size=1:=by intro e;simp only[List.size_toArray]at e;rw[hl]at e;match vs,e with|[v'],_=>exact hne v' rfl
  rw[dif_neg hne']at h1;exact⟨_,h1,by simp only[V];exact⟨us,rfl,h2⟩⟩
 ·cases h
theorem VL.replicate{G:Gh}{w:World}:∀n,VL G w (List.replicate n (.val undef)) (List.replicate n undef)|0=>by simp[VL]|n+1=>by simp only[List.replicate_succ,VL];exact⟨by simp[V],VL.replicate n⟩
def put:List (Nat×yL)->Nat->yL->List (Nat×yL)|[],_,_=>[]|p::l,i,Y=>bif Nat.beq i p.1 then(p.1,Y)::l else p::put l i Y
def iS(H:List (Nat×yL)):List (Nat×yL×yL)->List (Nat×yL)|[]=>H|p::l=>put (iS H l) p.1 p.2.2
theorem oZ{i j:Nat}(h:i≠j):Nat.beq i j=false:=by cases hb:Nat.beq i j with|false=>rfl|true=>exact absurd (Nat.eq_of_beq_eq_true hb) h
theorem G9:∀(H:List (Nat×yL))(i j:Nat)(Y:yL),look (put H i Y) j=if j=i/\(look H i).isSome=true then some Y else look H j|[],i,j,Y=>by simp[put,look]|p::H,i,j,Y=>by simp only[put];cases hi:Nat.beq i p.1 with
 |true=>
  have:=Nat.eq_of_beq_eq_true hi;subst this;simp only[cond_true,look,hi];by_cases hj:j=p.1;·subst hj;simp
  ·have:Nat.beq j p.1=false:=oZ hj;simp[this,hj]|false=>
  have hne:i≠p.1:=by rintro rfl;simp at hi
  simp only[cond_false,look,hi];rw[G9 H i j Y];by_cases hj:j=p.1
  ·subst hj;have hb:Nat.beq p.1 p.1=true:=by simp
   simp only[hb,cond_true];rw[if_neg (λe=>hne e.1.symm)]
  ·have hb:Nat.beq j p.1=false:=oZ hj;simp only[hb,cond_false]
def xD(σ₀:vD)(s:xB):vD:=⟨λi=>match look s.H i with|some X=>some X|none=>σ₀.H i,λk=>s.own.any (Nat.beq k)||σ₀.own k,s.ns⟩
def jO(ns:Nat):Nat->List Nat|0=>[]|n+1=>(ns+n)::jO ns n
theorem dX{ns k:Nat}:∀n,k∈jO ns n↔ns<=k/\k<ns+n|0=>by simp[jO]|n+1=>by simp only[jO,List.mem_cons,dX n];omega
def xB.app(s:xB)(la:LA):xB:=⟨la.al++iS s.H la.wr,max (max s.nx la.hi) (la.al.foldl (λm p=>max m (p.1+1)) 0),jO s.ns la.new++s.own.filter (λk=>!(la.use.any (Nat.beq k))),s.ns+la.new,la.wr.map (·.1)++s.dirty⟩
structure xB.fit(s:xB)(la:LA):Prop where
 rd:∀i X,(i,X)∈la.rd->look s.H i=some X
 wr:∀i X Y,(i,X,Y)∈la.wr->look s.H i=some X
 al:∀i X,(i,X)∈la.al->s.nx<=i
 lo:la.lo<la.hi->s.nx<=la.lo
 use:∀k,k∈la.use->k∈s.own
 ns:la.use≠[]\/la.new≠0\/la.st=true->la.ns=s.ns
 rc:∀i k v,(i,k,v)∈la.rc->∃X,look s.H i=some X/\pV X k=some v
 kp:∀i k X Y,(i,k)∈la.kp->(i,X,Y)∈la.wr->pV X k=pV Y k
structure xB.On(s:xB)(σ₀:vD)(b:Nat):Prop where
 H:∀i X,look s.H i=some X->i<s.nx
 own:∀k,k∈s.own->b<=k/\k<s.ns
 fr:∀k,σ₀.own k=true->k<b
 b:b<=s.ns
theorem uK{l:List Nat}{k:Nat}:l.any (Nat.beq k)=true↔k∈l:=by
 rw[List.any_eq_true];constructor;·rintro⟨x,hx,h⟩;have:=Nat.eq_of_beq_eq_true h;subst this;exact hx
 ·intro h;exact⟨k,h,by simp⟩
theorem H2:∀(l:List (Nat×yL))(m i:Nat)(X:yL),m<=l.foldl (λm p=>max m (p.1+1)) m/\((i,X)∈l->i<l.foldl (λm p=>max m (p.1+1)) m)
 |[],m,i,X=>by simp|p::l,m,i,X=>by
  simp only[List.foldl_cons,List.mem_cons];obtain⟨h1,h2⟩:=H2 l (max m (p.1+1)) i X;refine⟨by omega,?_⟩;rintro(rfl|h)
  ·have h1':max m (i+1)<=List.foldl (λm p=>max m (p.fst+1)) (max m (i+1)) l:=h1;show i<List.foldl (λm p=>max m (p.fst+1)) (max m (i+1)) l;omega
  ·exact h2 h
theorem xB.app_nx(s:xB)(la:LA):s.nx<=(s.app la).nx/\la.hi<=(s.app la).nx/\∀i X,(i,X)∈la.al->i<(s.app la).nx:=by simp only[xB.app];refine⟨by omega,by omega,λi X h=>?_⟩;have:=(H2 la.al 0 i X).2 h;omega
theorem xB.can{s:xB}{la:LA}(h:s.fit la){σ₀:vD}{b:Nat}(ho:s.On σ₀ b)(hfree:∀i,s.nx<=i->i<(s.app la).nx->σ₀.H i=none):la.can (xD σ₀ s):=by
 have hn:∀i,s.nx<=i->i<(s.app la).nx->(xD σ₀ s).H i=none:=by intro i h1 h2;show(match look s.H i with|some X=>some X|none=>σ₀.H i)=none;cases hl:look s.H i with|some X=>have:=ho.H i X hl;omega|none=>exact hfree i h1 h2
 obtain⟨n1,n2,n3⟩:=s.app_nx la;refine⟨λi X hX=>?_,λi X Y hX=>?_,λi X hX=>hn i (h.al i X hX) (n3 i X hX),λk hk=>?_,h.ns,λi h1 h2=>hn i (Nat.le_trans (h.lo (by omega)) h1) (by omega),λi k v hX=>?_,h.kp⟩;·show(match look s.H i with|some X=>some X|none=>σ₀.H i)=some X;rw[h.rd i X hX]
 ·show(match look s.H i with|some X=>some X|none=>σ₀.H i)=some X;rw[h.wr i X Y hX]
 ·show(s.own.any (Nat.beq k)||σ₀.own k)=true;rw[uK.2 (h.use k hk)];rfl
 ·obtain⟨X,h1,h2⟩:=h.rc i k v hX;refine⟨X,?_,h2⟩;show(match look s.H i with|some X=>some X|none=>σ₀.H i)=some X;rw[h1]
theorem jP{H:List (Nat×yL)}:∀(l:List (Nat×yL×yL))(i:Nat),(∀p∈l,(look H p.1).isSome=true)->(∀i,(look H i).isSome=(look (iS H l) i).isSome)/\(match look (iS H l) i with|some X=>some X|none=>none)=(if(look H i).isSome=true then fO (look H) (l.map λp=>(p.1,p.2.2)) i else none)
 |[],i,_=>by refine⟨λ_=>rfl,?_⟩;simp only[iS,List.map_nil,fO];cases look H i<;>rfl|p::l,i,h=>by
  have ih:=λi=>jP l i (λq hq=>h q (by simp[hq]));have hp:=h p (by simp);have hs:∀j,(look H j).isSome=(look (iS H (p::l)) j).isSome:=by
   intro j;simp only[iS,G9];have hj:=(ih j).1 j;by_cases e:j=p.1/\(look (iS H l) p.1).isSome=true;·rw[if_pos e,e.1,hp];rfl
   ·rw[if_neg e];exact hj
  refine⟨hs,?_⟩;simp only[iS,G9,List.map_cons,fO];have hpl:(look (iS H l) p.1).isSome=true:=by rw[<-(ih p.1).1 p.1];exact hp
  by_cases e:i=p.1
  ·subst e;rw[if_pos ⟨rfl,hpl⟩,if_pos hp,yR]
  ·rw[if_neg (λq=>e q.1),xO _ _ e];exact(ih i).2
theorem nU:∀(l m:List (Nat×yL))(i:Nat),look (l++m) i=match look l i with|some X=>some X|none=>look m i
 |[],m,i=>by simp[look]|p::l,m,i=>by simp only[List.cons_append,look];cases Nat.beq i p.1 with|true=>rfl|false=>simp only[cond_false];exact nU l m i
theorem H3:∀(l:List (Nat×yL))(H:Nat->Option yL)(i:Nat),fO H l i=match look l i with|some X=>some X|none=>H i
 |[],H,i=>by simp[look,fO]|p::l,H,i=>by
  simp only[look,fO];by_cases e:i=p.1;·subst e;rw[yR];simp
  ·rw[xO _ _ e];have:Nat.beq i p.1=false:=oZ e;simp only[this,cond_false];exact H3 l H i
theorem zPK{s:xB}{la:LA}(h:s.fit la){σ₀:vD}{b:Nat}(ho:s.On σ₀ b):la.app (xD σ₀ s)=xD σ₀ (s.app la):=by
 have hH:(la.app (xD σ₀ s)).H=(xD σ₀ (s.app la)).H:=by funext i;show fO (fO (xD σ₀ s).H (la.wr.map λp=>(p.1,p.2.2))) la.al i=match look (la.al++iS s.H la.wr) i with|some X=>some X|none=>σ₀.H i;rw[H3,nU];cases look la.al i with|some X=>rfl|none=>
   simp only;have hpw:∀p∈la.wr,(look s.H p.1).isSome=true:=λp hp=>by rw[h.wr p.1 p.2.1 p.2.2 hp];rfl
   obtain⟨_,hp2⟩:=jP la.wr i hpw;have hp1:=(jP la.wr i hpw).1 i;have hu:∀(l:List (Nat×yL×yL)),(∀p∈l,(look s.H p.1).isSome=true)->fO (xD σ₀ s).H (l.map λp=>(p.1,p.2.2)) i=if(look s.H i).isSome=true then fO (look s.H) (l.map λp=>(p.1,p.2.2)) i else σ₀.H i:=by intro l hl;induction l with|nil=>simp only[List.map_nil,fO,xD];cases look s.H i<;>rfl|cons p l ih=>
     simp only[List.map_cons,fO];by_cases e:i=p.1;·subst e;rw[yR,yR,if_pos (hl p (by simp))]
     ·rw[xO _ _ e,xO _ _ e];exact ih (λq hq=>hl q (by simp[hq]))
   rw[hu la.wr hpw];cases hl:look s.H i with
   |none=>
    rw[hl]at hp1;simp only[Option.isSome_none]at hp1;have:look (iS s.H la.wr) i=none:=by cases hq:look (iS s.H la.wr) i with|none=>rfl|some X=>rw[hq]at hp1;cases hp1
    rw[this];rfl|some X=>rw[hl]at hp2 hp1;simp only[Option.isSome_some,if_true]at hp2 hp1⊢;rw[<-hp2];cases hq:look (iS s.H la.wr) i with|none=>rw[hq]at hp1;cases hp1|some Y=>rfl
 have hO:(la.app (xD σ₀ s)).own=(xD σ₀ (s.app la)).own:=by
  funext k;show(if s.ns<=k/\k<s.ns+la.new then true else if k∈la.use then false else(s.own.any (Nat.beq k)||σ₀.own k))=((jO s.ns la.new++s.own.filter (λk=>!(la.use.any (Nat.beq k)))).any (Nat.beq k)||σ₀.own k);rw[List.any_append];by_cases hk:s.ns<=k/\k<s.ns+la.new;·rw[if_pos hk,uK.2 ((dX la.new).2 hk)];rfl
  ·rw[if_neg hk];have h1:(jO s.ns la.new).any (Nat.beq k)=false:=by cases hf:(jO s.ns la.new).any (Nat.beq k)with|false=>rfl|true=>exact absurd ((dX la.new).1 (uK.1 hf)) hk
   rw[h1,Bool.false_or];by_cases hu:k∈la.use
   ·rw[if_pos hu];have h2:(s.own.filter (λk=>!(la.use.any (Nat.beq k)))).any (Nat.beq k)=false:=by cases hf:(s.own.filter (λk=>!(la.use.any (Nat.beq k)))).any (Nat.beq k)with|false=>rfl|true=>have:=uK.1 hf;rw[List.mem_filter]at this;rw[uK.2 hu]at this;simp at this
    have h3:σ₀.own k=false:=by cases hf:σ₀.own k with|false=>rfl|true=>have:=ho.fr k hf;have:=(ho.own k (h.use k hu)).1;omega
    rw[h2,h3];rfl
   ·rw[if_neg hu];congr 1;rw[Bool.eq_iff_iff,uK,uK,List.mem_filter];constructor
    ·intro hm;refine⟨hm,?_⟩;cases hf:la.use.any (Nat.beq k)with|false=>rfl|true=>exact absurd (uK.1 hf) hu
    ·exactλhm=>hm.1
 calc la.app (xD σ₀ s)=⟨(la.app (xD σ₀ s)).H,(la.app (xD σ₀ s)).own,(la.app (xD σ₀ s)).ns⟩:=rfl
  _=⟨(xD σ₀ (s.app la)).H,(xD σ₀ (s.app la)).own,(xD σ₀ (s.app la)).ns⟩:=by rw[hH,hO];rfl
  _=xD σ₀ (s.app la):=rfl
theorem On.app{s:xB}{la:LA}(h:s.fit la){σ₀:vD}{b:Nat}(ho:s.On σ₀ b):(s.app la).On σ₀ b:=by
 obtain⟨n1,n2,n3⟩:=s.app_nx la;refine⟨λi X hX=>?_,λk hk=>?_,ho.fr,Nat.le_trans ho.b (Nat.le_add_right _ _)⟩;·have hX':look (la.al++iS s.H la.wr) i=some X:=hX;rw[nU]at hX';cases hl:look la.al i with
  |some Y=>
   have mem:∀(l:List (Nat×yL))(i:Nat)(Y:yL),look l i=some Y->(i,Y)∈l:=by intro l;induction l with|nil=>intro i Y h;cases h|cons p l ih=>intro i Y h;simp only[look]at h;cases hb:Nat.beq i p.1 with|true=>rw[hb]at h;have:=Nat.eq_of_beq_eq_true hb;subst this;simp only[cond_true,Option.some.injEq]at h;subst h;simp|false=>rw[hb]at h;exact List.mem_cons_of_mem _ (ih i Y h)
   exact n3 i Y (mem _ _ _ hl)|none=>
   rw[hl]at hX';simp only at hX';have hpw:∀p∈la.wr,(look s.H p.1).isSome=true:=λp hp=>by rw[h.wr p.1 p.2.1 p.2.2 hp];rfl
   have hp1:=(jP la.wr i hpw).1 i;rw[hX']at hp1;cases hq:look s.H i with|none=>rw[hq]at hp1;cases hp1|some Y=>exact Nat.lt_of_lt_of_le (ho.H i Y hq) n1
 ·have hk':k∈jO s.ns la.new++s.own.filter (λk=>!(la.use.any (Nat.beq k))):=hk;have hns:(s.app la).ns=s.ns+la.new:=rfl;have:=ho.b;rcases List.mem_append.1 hk' with h1|h1;·have:=(dX la.new).1 h1;omega
  ·have:=ho.own k (List.mem_filter.1 h1).1;omega
theorem H4{s:xB}{ev:Operand->AV}{v:AV}:s.fit {ev:=ev,v:=v}:=⟨λi X h=>by simp at h,λi X Y h=>by simp at h,λi X h=>by simp at h,λh=>by simp at h,λk h=>by simp at h,λh=>by simp at h,λi k v h=>by simp at h,λi k X Y h=>by simp at h⟩
theorem zJv{s:xB}{ev:Operand->AV}{v:AV}{X:yL}:s.fit {ev:=ev,al:=[(s.nx,X)],v:=v}:=⟨λi X h=>by simp at h,λi X Y h=>by simp at h,λi X h=>by simp at h;omega,λh=>by simp at h,λk h=>by simp at h,λh=>by simp at h,λi k v h=>by simp at h,λi k X Y h=>by simp at h⟩
theorem zJu{s:xB}{ev:Operand->AV}{v:AV}{i:Nat}{X:yL}(hX:look s.H i=some X):s.fit {ev:=ev,rd:=[(i,X)],v:=v}:=⟨λj Y h=>by simp at h;obtain⟨rfl,rfl⟩:=h;exact hX,λi X Y h=>by simp at h,λi X h=>by simp at h,λh=>by simp at h,λk h=>by simp at h,λh=>by simp at h,λi k v h=>by simp at h,λi k X Y h=>by simp at h⟩
theorem zPL{s:xB}{ev:Operand->AV}{v:AV}{i:Nat}{X Y:yL}(hX:look s.H i=some X):s.fit {ev:=ev,v:=v,wr:=[(i,X,Y)]}:=⟨λj Y h=>by simp at h,λj A B h=>by simp at h;obtain⟨rfl,rfl,rfl⟩:=h;exact hX,λi X h=>by simp at h,λh=>by simp at h,λk h=>by simp at h,λh=>by simp at h,λi k v h=>by simp at h,λi k X Y h=>by simp at h⟩
theorem zTR{P:Program}{o:Op}{ev:Operand->AV}{s:xB}{la:LA}(h:eop P o ev s=some la):s.fit la:=by
 unfold eop at h;split at h
 ·split at h
  ·split at h;·cases h;exact zJv
   ·cases h
  ·cases h
 ·rename_i x;cases hs:(ev x).sound<;>simp only[hs,cond_true,cond_false,Option.some.injEq,reduceCtorEq]at h;subst h;exact zJv
 ·split at h
  ·split at h
   ·split at h;·rename_i hl _ _ _;cases h;exact zJu (by assumption)
    ·cases h
   ·cases h
  ·cases h
 ·split at h
  ·split at h
   ·rename_i hl;generalize(AV.sound _&&_&&_)=c at h;cases c<;>simp only[cond_true,cond_false,Option.some.injEq,reduceCtorEq]at h;subst h;exact zPL hl
   ·cases h
  ·cases h
 ·split at h
  ·split at h
   ·split at h
    ·generalize(Nat.beq _ _&&_&&_)=c at h;cases c<;>simp only[cond_true,cond_false,reduceCtorEq]at h;split at h;·cases h;exact H4
     ·cases h
    ·cases h
   ·cases h
  ·cases h
 ·split at h
  ·split at h
   ·split at h
    ·split at h;·cases h;exact H4
     ·cases h
    ·cases h
   ·cases h
  ·cases h
 ·cases h;exact zJv
 ·cases h
theorem zFM{P:Program}{t t2:TypeId}{ev:Operand->AV}{a b:AV}{s:xB}{la:LA}(h:mT P t t2 ev a b s=some la):s.fit la:=by
 unfold mT at h;split at h
 ·rename_i e es n o es2 n2 o2 _;split at h
  ·split at h;·generalize(Nat.beq t t2&&_&&_&&_&&_&&_&&_&&_)=c at h;cases c with|false=>cases h|true=>simp only[cond_true]at h;generalize Nat.beq n2 0=d at h;cases d with|true=>simp only[cond_true,Option.some.injEq]at h;subst h;exact H4|false=>
    simp only[cond_false]at h;split at h
    ·cases h;exact⟨λi X h=>by simp at h,λi X Y h=>by simp at h,λi X h=>by simp at h,λh=>by simp at h,λk h=>by simp at h,λ_=>rfl,λi k v h=>by simp at h,λi k X Y h=>by simp at h⟩
    ·rename_i k sz;cases hk:(s.own.any (Nat.beq k)&&Nat.beq sz _)with|false=>rw[hk]at h;cases h|true=>rw[hk]at h;simp only[cond_true,Option.some.injEq]at h;subst h;simp only[Bool.and_eq_true]at hk;exact⟨λi X h=>by simp at h,λi X Y h=>by simp at h,λi X h=>by simp at h,λh=>by simp at h,λj h=>by simp at h;subst h;exact uK.1 hk.1,λ_=>rfl,λi k v h=>by simp at h,λi k X Y h=>by simp at h⟩
    ·cases h;exact⟨λi X h=>by simp at h,λi X Y h=>by simp at h,λi X h=>by simp at h,λh=>by simp at h,λk h=>by simp at h,λ_=>rfl,λi k v h=>by simp at h,λi k X Y h=>by simp at h⟩
    ·cases h
   ·cases h
  ·cases h
 ·cases h
theorem zEp{P:Program}{t t2:TypeId}{ev:Operand->AV}{a:AV}{bs:ByteArray}{s:xB}{la:LA}(h:lQ P t t2 ev a bs s=some la):s.fit la:=by unfold lQ at h;cases h
theorem kT{P:Program}{o:Op}{ev:Operand->AV}{s:xB}{la:LA}(h:V5 P o ev s=some la):s.fit la:=by
 unfold V5 at h;split at h;·cases h;exact H4
 ·rename_i hn;clear hn;split at h
  ·unfold kS at h;split at h
   ·split at h
    ·rename_i hl;split at h;·generalize rE _=c at h;cases c with|false=>cases h|true=>simp only[cond_true,Option.some.injEq]at h;subst h;exact zJu hl
     ·cases h
    ·cases h
   ·cases h
  ·unfold rU at h;split at h
   ·split at h
    ·rename_i hl;split at h;·generalize rE _=c at h;cases c with|false=>cases h|true=>simp only[cond_true,Option.some.injEq]at h;subst h;exact zPL hl
     ·cases h
    ·cases h
   ·cases h
  ·unfold zEv at h;cases h
  ·unfold zCd at h;cases h
  ·split at h
   ·unfold zFH at h;split at h;·exact zEp h
    ·exact zFM h
   ·cases h
  ·exact zTR h
def tY(P:Program)(f:FuncId)(args:List AV)(la:LA):Prop:=∀(dst:Option Tmp)(type:TypeId)(pos:String)(after:Array Edge)(guard:Option (Nat×Bool))(g:Operand)(cargs:Array Operand)(argTypes:Array TypeId)(first caps:List AV)(ev:Operand->AV),ev g=.clo f first caps->args=first++cargs.toList.map ev++caps->wN P ⟨dst,.call {callee:=.value g,args:=cargs,argTypes:=argTypes},type,pos,after,guard⟩ {la with ev:=ev}
def qI(P:Program)(call:FuncId->List AV->xB->Option LA):Prop:=∀f args s la,call f args s=some la->s.fit la/\tY P f args la
structure jQ(s s':xB):Prop where
 nx:s.nx<=s'.nx
 dirty:∀i,i∈s.dirty->i∈s'.dirty
 still:∀i X,look s.H i=some X->i<s.nx->i∉s'.dirty->look s'.H i=some X
 held:∀i X,look s'.H i=some X->s.nx<=i\/∃Y,look s.H i=some Y
theorem jQ.refl(s:xB):jQ s s:=⟨Nat.le_refl _,λ_ h=>h,λ_ _ h _ _=>h,λ_ X h=>.inr ⟨X,h⟩⟩
theorem jQ.trans{s s₁ s₂:xB}(h:jQ s s₁)(k:jQ s₁ s₂):jQ s s₂:=⟨Nat.le_trans h.nx k.nx,λi hi=>k.dirty i (h.dirty i hi),λi X hX hlt hd=>k.still i X (h.still i X hX hlt (λe=>hd (k.dirty i e))) (Nat.lt_of_lt_of_le hlt h.nx) hd,λi X hX=>(k.held i X hX).elim (λhle=>.inl (Nat.le_trans h.nx hle)) (λ⟨Y,hY⟩=>h.held i Y hY)⟩
theorem H5{H:List (Nat×yL)}:∀(l:List (Nat×yL×yL))(i:Nat),i∉l.map (·.1)->look (iS H l) i=look H i|[],_,_=>rfl|p::l,i,h=>by simp only[List.map_cons,List.mem_cons,not_or]at h;simp only[iS,G9];rw[if_neg (λe=>h.1 e.1)];exact H5 l i h.2
theorem dY:∀(l:List (Nat×yL))(i:Nat),(∀X,(i,X)∉l)->look l i=none
 |[],_,_=>rfl|p::l,i,h=>by
  simp only[look];have hne:i≠p.1:=by rintro rfl;exact h p.2 (by simp)
  rw[oZ hne];exact dY l i (λX hX=>h X (by simp[hX]))
theorem jQ.app{s:xB}{la:LA}(h:s.fit la):jQ s (s.app la):=by
 refine⟨(s.app_nx la).1,λi hi=>?_,λi X hX hlt hd=>?_,λi X hX=>?_⟩;·show i∈la.wr.map (·.1)++s.dirty;simp[hi]
 ·have hd':i∉la.wr.map (·.1)++s.dirty:=hd;simp only[List.mem_append,not_or]at hd';show look (la.al++iS s.H la.wr) i=some X;rw[nU,dY la.al i (λY hY=>by have:=h.al i Y hY;omega)];simp only;rw[H5 _ _ hd'.1,hX]
 ·have hX':look (la.al++iS s.H la.wr) i=some X:=hX;by_cases hi:s.nx<=i;·exact .inl hi
  ·rw[nU,dY la.al i (λY hY=>hi (h.al i Y hY))]at hX';simp only at hX';have hpw:∀p∈la.wr,(look s.H p.1).isSome=true:=λp hp=>by rw[h.wr p.1 p.2.1 p.2.2 hp];rfl
   have hp1:=(jP la.wr i hpw).1 i;rw[hX']at hp1;exact .inr (Option.isSome_iff_exists.1 (by simpa using hp1))
def idx(k:Nat):List Nat->Nat->Option Nat|[],_=>none|j::l,t=>bif Nat.beq k j then some t else idx k l (t+1)
theorem zFN{k:Nat}:∀(l:List Nat)(t r:Nat),idx k l t=some r->t<=r/\l[r-t]?=some k|[],_,_,h=>by cases h|j::l,t,r,h=>by simp only[idx]at h;cases hb:Nat.beq k j with|true=>rw[hb]at h;simp only[cond_true,Option.some.injEq]at h;subst h;have:=Nat.eq_of_beq_eq_true hb;subst this;simp|false=>rw[hb]at h;obtain⟨h1,h2⟩:=zFN l (t+1) r h;refine⟨by omega,?_⟩;rw[show r-t=(r-(t+1))+1 by omega];simpa using h2
theorem zJt{P:Program}{H H':Nat->Option yL}(hH:∀i X,H i=some X->H' i=some X){env:List AV}{r:ResultVar}{v:AV}(h:j4 P H env r=some v):j4 P H' env r=some v:=by cases r with|tmp t=>exact h|cell b t=>
 simp only[j4]at h⊢;split at h
 ·rename_i q i off hq he;split at h;·rename_i cs hcs;rw[hH _ _ hcs];exact h
  ·cases h
 ·cases h
theorem j6{P:Program}{H H':Nat->Option yL}(hH:∀i X,H i=some X->H' i=some X){env:List AV}:∀{rs:List ResultVar}{v:List AV},aL P H env rs=some v->aL P H' env rs=some v
 |[],_,h=>h|r::rs,v,h=>by
  simp only[aL]at h⊢;split at h
  ·rename_i v' vs h1 h2;rw[zJt hH h1,j6 hH h2];exact h
  ·cases h
theorem zNt{P:Program}{H H':Nat->Option yL}(hH:∀i X,H i=some X->H' i=some X){env:List AV}{rs:List ResultVar}{v:AV}(h:j5 P H env rs=some v):j5 P H' env rs=some v:=by unfold j5 at h⊢;cases hr:aL P H env rs with|none=>rw[hr]at h;cases h|some vs=>rw[hr]at h;rw[j6 hH hr];exact h
theorem zNu.ev{P:Program}{f:FuncId}{args:List AV}{la:LA}(h:zNu P f args la)(ev:Operand->AV):zNu P f args {la with ev:=ev}:=λG σ w cargs hR hv hc=>h G σ w cargs hR hv ⟨hc.rd,hc.wr,hc.al,hc.use,hc.ns,hc.hole,hc.rc,hc.kp⟩
theorem tY.of{P:Program}{f:FuncId}{args:List AV}{la:LA}{fn:Func}(hf:P.funcs[f]?=some fn)(hname:(fn.name=="runtime.NumGoroutine")=false)(hb:fn.body.isNone=false)(h:zNu P f args la):tY P f args la:=by intro dst type pos after guard g cargs argTypes first caps ev hg hargs;subst hargs;exact wN.call (la:={la with ev:=ev}) hg hf hname hb (h.ev ev)
def uI(k:Nat):vD:=⟨λ_=>none,λ_=>false,k⟩
def base(W:World)(L:Nat->Nat->Prop):Gh:=⟨λ_=>none,λ_=>none,L,W,λk=>k<W.heap.size,λ_=>False⟩
theorem tY.extern{P:Program}{f:FuncId}{args:List AV}{la:LA}(h:∀(G:Gh)(σ:vD)(w:World)(cargs:Array Value),yM G σ w->VL G w args cargs.toList->la.can σ->∃u w' G',(callFunc f cargs).run P w=.ok (.value u) w'/\vL G w G' w'/\yM G' (la.app σ) w'/\V G' w' la.v u):tY P f args la:=by intro dst type pos after guard g cargs argTypes first caps ev hg hargs;subst hargs;refine wN.value (la:={la with ev:=ev}) λG σ w a hR hx hc=>?_;have hgx:=hx g (by simp[Op.operands,Call.operands]);have hg':(LA.ev {la with ev:=ev}) g=.clo f first caps:=hg;rw[hg']at hgx;simp only[V]at hgx;obtain⟨l,r,hge,hl,hr⟩:=hgx;have hargs:VL G w (cargs.toList.map ev) (cargs.toList.map a.eval):=VL.mapv _ λp hp=>hx p (by simp[Op.operands,Call.operands];exact .inr (by simpa using hp));obtain⟨u,w',G',h1,h2,h3,h4⟩:=h G σ w (l.toArray++cargs.map a.eval++r.toArray) hR (by have:=VL.append _ _ _ _ (VL.append _ _ _ _ hl hargs) hr;simpa using this) ⟨hc.rd,hc.wr,hc.al,hc.use,hc.ns,hc.hole,hc.rc,hc.kp⟩;refine⟨u,w',G',?_,h2,h3,h4⟩;simp only[execOp,resolve,hge,Deferred.ofValue,Sem.run_bind,Sem.run_pure,Result.andThen_ok,invoke,h1]
theorem zTS{cur:Array Value}{off:Nat}{v:Value}:cur.setIfInBounds off v=(cur.toList.set off v).toArray:=by apply Array.ext';simp
theorem zEo{G:Gh}{σ:vD}{w:World}(hR:yM G σ w){i off:Nat}{cs:List AV}(hX:σ.H i=some (.cells cs)){a:AV}(ha:cs[off]?=some a){u:Value}(hu:V G w (.mp i off) u):∃b vs T x,G.ρ i=some b/\u=.pointer (some ⟨b,off,none⟩)/\w.heap[b]?=some (.cells vs T (0,0))/\fR G w cs vs.toList/\w.cell? ⟨b,off,none⟩=some x/\w.frozen? ⟨b,off,none⟩=false/\V G w a x:=by
 obtain⟨b,hb,_,hblk⟩:=hR.look hX;obtain⟨vs,T,hh,hl⟩:=hblk;simp only[V]at hu;obtain⟨b',hb',rfl⟩:=hu;rw[hb]at hb';cases hb';obtain⟨x,hx,hv⟩:=hl.get off a ha;refine⟨b,vs,T,x,hb,rfl,hh,hl,?_,?_,hv⟩;·simp only[World.cell?,hh];simpa using hx
 ·simp[World.frozen?,hh]
theorem zFO{G:Gh}{w:World}{a b:AV}{l:Array Value}(h:VL G w [a,b] l.toList):∃u v,l=#[u,v]/\V G w a u/\V G w b v:=by obtain⟨l⟩:=l;match l,h with|[],h=>simp only[VL]at h|[_],h=>simp only[VL,and_false]at h|[u,v],h=>simp only[VL,and_true]at h;exact⟨u,v,rfl,h⟩|_::_::_::_,h=>simp only[VL,and_false]at h
theorem zPM{G:Gh}{w:World}{a:AV}{l:Array Value}(h:VL G w [a] l.toList):∃u,l=#[u]/\V G w a u:=by obtain⟨l⟩:=l;match l,h with|[],h=>simp only[VL]at h|[u],h=>simp only[VL,and_true]at h;exact⟨u,rfl,h⟩|_::_::_,h=>simp only[VL,and_false]at h
def pA(i off:Nat)(cs:List AV)(v:Value):LA:={ev:=λ_=>.val undef,wr:=[(i,.cells cs,.cells (cs.set off (.val v)))],v:=.tup []}
def lR(i:Nat)(cs:List AV)(v:AV):LA:={ev:=λ_=>.val undef,rd:=[(i,.cells cs)],v:=v}
def fC(i off:Nat)(cs:List AV)(v:Value):LA:={ev:=λ_=>.val undef,wr:=[(i,.cells cs,.cells (cs.set off (.val v)))],v:=.val v}
theorem zPN{G:Gh}{σ:vD}{w:World}(hR:yM G σ w){i off b:Nat}{cs:List AV}{vs:Array Value}{T:TypeId}(hb:G.ρ i=some b)(hh:w.heap[b]?=some (.cells vs T (0,0)))(hl:fR G w cs vs.toList)(hi:off<cs.length)(hX:σ.H i=some (.cells cs))(v:Value):vL G w G (w.setCell ⟨b,off,none⟩ v)/\yM G ⟨up σ.H i (.cells (cs.set off (.val v))),σ.own,σ.ns⟩ (w.setCell ⟨b,off,none⟩ v):=by
 have e:w.setCell ⟨b,off,none⟩ v=w.setRow b (vs.toList.set off v).toArray:=by have:=setCell_eq_setRow w b off vs T (0,0) v hh;rw[this,zTS]
 rw[e];exact⟨vL.setRow hR hb _ (λo T' e=>by rw[hh]at e;cases e;simp),hR.setRow hb (by rw[hX];simp) _ _ (by simp) hh (hl.set off hi _ _ (by simp[V]))⟩
section
variable{P:Program}{f:FuncId}{fn:Func}(hf:P.funcs[f]?=some fn)(hname:(fn.name=="runtime.NumGoroutine")=false)(hb:fn.body.isNone=true)(hn:Extern.findNext fn=none)
include hf hname hb hn
theorem zJs(he:Extern.find fn=some Extern.Atomic.storeT){i off:Nat}{k:IntKind}{y:Int}{cs:List AV}{a:AV}(ha:cs[off]?=some a):tY P f [.mp i off,.val (.int k y)] (pA i off cs (.int k y)):=by refine tY.extern λG σ w cargs hR hv hc=>?_;obtain⟨u1,u2,rfl,h1,h2⟩:=zFO hv;simp only[V]at h2;subst h2;have hX:=hc.wr _ _ _ (List.mem_singleton.2 rfl);obtain⟨b,vs,T,x,hbb,rfl,hh,hl,hcell,hfr,_⟩:=zEo hR hX ha h1;obtain⟨hE,hR'⟩:=zPN hR (off:=off) hbb hh hl (List.getElem?_eq_some_iff.1 ha).1 hX (.int k y);refine⟨_,_,G,run_call_store hf hname hb hn he hcell hfr,hE,?_,by simp only[pA,V];exact⟨[],rfl,by simp[VL]⟩⟩;rw[pA,P0];exact hR'
theorem zNs(k:IntKind)(he:Extern.find fn=some (Extern.Atomic.loadT (.int k))){i off:Nat}{x:Int}{cs:List AV}(ha:cs[off]?=some (.val (.int k x))):tY P f [.mp i off] (lR i cs (.val (.int k x))):=by refine tY.extern λG σ w cargs hR hv hc=>?_;obtain⟨u1,rfl,h1⟩:=zPM hv;have hX:=hc.rd _ _ (List.mem_singleton.2 rfl);obtain⟨b,vs,T,x',hbb,rfl,hh,hl,hcell,hfr,hx⟩:=zEo hR hX ha h1;simp only[V]at hx;subst hx;refine⟨_,w,G,run_call_load hf hname hb hn k he hcell,vL.refl G w,?_,by simp[lR,V]⟩;show yM G ((vD.mk σ.H σ.own σ.ns).stamps [] 0) w;rw[vD.stamps_zero];exact hR
theorem zPO(k:IntKind)(he:Extern.find fn=some (Extern.Atomic.update (Op.intArith .add) k true)){i off:Nat}{x y s:Int}{cs:List AV}(ha:cs[off]?=some (.val (.int k x)))(hs:∀w,(Op.intArith .add k x y).run P w=.ok (.int k s) w):tY P f [.mp i off,.val (.int k y)] (fC i off cs (.int k s)):=by refine tY.extern λG σ w cargs hR hv hc=>?_;obtain⟨u1,u2,rfl,h1,h2⟩:=zFO hv;simp only[V]at h2;subst h2;have hX:=hc.wr _ _ _ (List.mem_singleton.2 rfl);obtain⟨b,vs,T,x',hbb,rfl,hh,hl,hcell,hfr,hx⟩:=zEo hR hX ha h1;simp only[V]at hx;subst hx;obtain⟨hE,hR'⟩:=zPN hR (off:=off) hbb hh hl (List.getElem?_eq_some_iff.1 ha).1 hX (.int k s);refine⟨_,_,G,run_call_add hf hname hb hn k he hcell hfr (hs w),hE,?_,by simp[fC,V]⟩;rw[fC,P0];exact hR'
end
theorem zNr{H:Type}{enc:TypeId×Value->H}{P:Program}{W:World}{n:Nat}{sp:Nat->Bool}{hd:Bool}{t:TypeId}(ht:P.underlying t=some .bool)(b:Bool):DataW.Trod enc P W n sp hd t (.bool b) (.lit (.bool b)) []:=⟨1,by simp[DataW.trod,Value.cells,ht]⟩
end Go.Ab
namespace Go.Proofs.YtohkcbcddindpaaGreat
open Go.Ab Go.ChangeShapes Go.WideShapes Go.ChangeAt Go.RowKit
def qU(f:FuncId)(args:List AV)(s:xB):Option LA:=bif Nat.beq f 66 then match args with
 |[.mp i off,.val (.int k y)]=>match Go.Ab.look s.H i with
  |some (.cells cs)=>match cs[off]? with|some _=>some (pA i off cs (.int k y))|none=>none
  |_=>none
 |_=>none else bif Nat.beq f 184 then match args with
 |[.mp i off]=>match Go.Ab.look s.H i with
  |some (.cells cs)=>match cs[off]? with|some (.val (.int .i64 x))=>some (lR i cs (.val (.int .i64 x)))|_=>none
  |_=>none
 |_=>none else bif Nat.beq f 185 then match args with
 |[.mp i off,.val (.int .i64 y)]=>match Go.Ab.look s.H i with
  |some (.cells cs)=>match cs[off]? with|some (.val (.int .i64 x))=>some (fC i off cs (.int .i64 (IntKind.i64.wrap (x+y))))|_=>none
  |_=>none
 |_=>none else none
theorem wV:qI Tryz.prog qU:=by intro f args s la h;unfold qU at h;cases h0:Nat.beq f 66 with
 |true=>
  have:=Nat.eq_of_beq_eq_true h0;subst this;simp only[h0,cond_true]at h;split at h
  ·split at h
   ·rename_i hl;split at h
    ·rename_i ha;cases h;exact⟨⟨λi X h=>by simp[pA]at h,λi A B h=>by simp[pA]at h;obtain⟨rfl,rfl,_⟩:=h;exact hl,λi X h=>by simp[pA]at h,λh=>by simp[pA]at h,λk h=>by simp[pA]at h,λh=>by simp[pA]at h,λi k v h=>by simp[pA]at h,λi k X Y h=>by simp[pA]at h⟩,zJs Tryz.func66 (by kernel_rfl) (by kernel_rfl) (by kernel_rfl) (by kernel_rfl) ha⟩
    ·cases h
   ·cases h
  ·cases h|false=>simp only[h0,cond_false]at h;cases h1:Nat.beq f 184 with
  |true=>
   have:=Nat.eq_of_beq_eq_true h1;subst this;simp only[h1,cond_true]at h;split at h
   ·split at h
    ·rename_i hl;split at h;·rename_i ha;cases h;exact⟨⟨λi X h=>by simp[lR]at h;obtain⟨rfl,rfl⟩:=h;exact hl,λi A B h=>by simp[lR]at h,λi X h=>by simp[lR]at h,λh=>by simp[lR]at h,λk h=>by simp[lR]at h,λh=>by simp[lR]at h,λi k v h=>by simp[lR]at h,λi k X Y h=>by simp[lR]at h⟩,zNs Tryz.func184 (by kernel_rfl) (by kernel_rfl) (by kernel_rfl) .i64 (by kernel_rfl) ha⟩
     ·cases h
    ·cases h
   ·cases h|false=>simp only[h1,cond_false]at h;cases h2:Nat.beq f 185 with
   |true=>
    have:=Nat.eq_of_beq_eq_true h2;subst this;simp only[h2,cond_true]at h;split at h
    ·split at h
     ·rename_i hl;split at h
      ·rename_i ha;cases h;exact⟨⟨λi X h=>by simp[fC]at h,λi A B h=>by simp[fC]at h;obtain⟨rfl,rfl,_⟩:=h;exact hl,λi X h=>by simp[fC]at h,λh=>by simp[fC]at h,λk h=>by simp[fC]at h,λh=>by simp[fC]at h,λi k v h=>by simp[fC]at h,λi k X Y h=>by simp[fC]at h⟩,zPO Tryz.func185 (by kernel_rfl) (by kernel_rfl) (by kernel_rfl) .i64 (by kernel_rfl) ha (λw=>by simp[Op.intArith])⟩
      ·cases h
     ·cases h
    ·cases h|false=>simp only[h2,cond_false]at h;cases h
theorem mixed:Tryz.prog.follows .mixedOrders=true:=by kernel_rfl
theorem own:ownKnob Tryz.prog.godebug=none:=by kernel_rfl
theorem zLv:laidOutB Tryz.prog=true:=by kernel_rfl
theorem zCC:Tryz.prog.cellsOf 48=3:=by kernel_rfl
theorem zNq{H:Type}{enc:TypeId×Value->H}{W:World}{n:Nat}{sp:Nat->Bool}{hd:Bool}:DataW.Trod enc Tryz.prog W n sp hd 4 (.bool true) (.lit (.bool true)) []:=zNr Tryz.underlying4 true
end Go.Proofs.YtohkcbcddindpaaGreat
