/- Parts of the proof that the law returns true: walks of the functions, plain laws. -/
import Derived.Lib.SlicesCompact
import Derived.Sort.Grow
import Derived.Sort.Row
import Derived.Test.YthncchbcdpbgaaaGreatAbB2
set_option linter.unusedVariables false
set_option linter.unusedSimpArgs false
set_option linter.unusedSectionVars false
namespace Go.Ab
open Go Go.RowKit
theorem sS{α β:Type}{x:Option α}{f:α->Option β}{r:β}(h:(x>>=f)=some r):∃v,x=some v/\f v=some r:=by cases x with|none=>cases h|some v=>exact⟨v,rfl,h⟩
theorem ifT{α:Type}{b:Bool}{x y r:α}(hb:b=true)(h:(if b=true then x else y)=r):x=r:=by rwa[if_pos hb]at h
theorem ifF{α:Type}{b:Bool}{x y r:α}(hb:b=false)(h:(if b=true then x else y)=r):y=r:=by rw[hb,if_neg (by simp)]at h;exact h
theorem yU.nil{P:Program}:yU P []:=trivial
theorem yU.cons{P:Program}{o:Ob}{l:List Ob}(h:o.ok P)(k:yU P l):yU P (o::l):=⟨h,k⟩
theorem zKb{P:Program}{b b':Bool}(h:b=b'):Ob.ok P (.bit b b'):=h
theorem M8{P:Program}{f:FuncId}{H0:List yK}{args:List AV}{res:AV}{H1:List yK}{nst:Nat}(h:CT P f H0 args res H1 nst):Ob.ok P (.call f H0 args res H1 nst):=h
theorem t8{P:Program}{es:List AV}(h:AV.DataL es):Ob.ok P (.data es):=h
theorem uH.nilcase{P:Program}{f:FuncId}{H0 H1:List yK}{es:List AV}{n:Nat}{as0:List AV}{res:AV}{nst:Nat}(h0:es=[]->uH P f H0 (.sl es n .nl::as0) res H1 nst)(h1:uH P f H0 (.sl es n .nn::as0) res H1 nst):uH P f H0 (.sl es n .no::as0) res H1 nst:=by intro G0 W cargs hB hR hv;cases hc:cargs.toList with|nil=>rw[hc]at hv;simp only[VL]at hv|cons u us=>
 rw[hc]at hv;simp only[VL]at hv;obtain⟨hu,hus⟩:=hv;simp only[V]at hu;obtain⟨cap,hcap,⟨q1,q2,q3,q4,_⟩|⟨b,off,q1,q2,_⟩⟩:=hu;·cases hs:gS u with|none=>refine h0 q1 G0 W cargs hB hR ?_;rw[hc];simp only[VL];exact⟨by simp only[V];exact⟨cap,hcap,.inl ⟨q1,q2,q3,q4,hs⟩⟩,hus⟩|some a=>refine h1 G0 W cargs hB hR ?_;rw[hc];simp only[VL];exact⟨by simp only[V];exact⟨cap,hcap,.inl ⟨q1,q2,q3,q4,a,hs⟩⟩,hus⟩
 ·refine h1 G0 W cargs hB hR ?_;rw[hc];simp only[VL];exact⟨by simp only[V];exact⟨cap,hcap,.inr ⟨b,off,q1,q2,trivial⟩⟩,hus⟩
theorem s4{α:Type}{c:α->List AV}{sz:Nat}(hc:vB c sz)(h:0<sz){l:List α}(hl:zH c l=[]):l=[]:=by have:=uO hc.len l;rw[hl]at this;cases l with|nil=>rfl|cons x l=>simp only[List.length_nil,List.length_cons]at this;exact absurd this.symm (Nat.ne_of_gt (Nat.mul_pos (Nat.succ_pos _) h))
variable{P:Program}{pr:FuncId->List AV->yT->Option LA}(hp:sQ P pr)(hm:P.follows .mixedOrders=true){na:Nb}{fn:Func}{f:FuncId}
include hp hm
theorem uH.toHead{H0 H1:List yK}{args:List AV}{res:AV}{nst:Nat}(hf:P.funcs[f]?=some fn)(hb:fn.body.isNone=false)(n:Nat)(os:List nS)(rs:List (Option Nat×Nat×Nat))(keep ks live:List Nat){c:Code}{fs':List Fr}{E:(Nat->Value)->List AV}{S:yT}{ob:List Ob}(h:∀j,D7 P pr H0.length n (.run (sV fn)) [] (args++List.replicate (fn.ntmps-args.length) (.val undef)) (V1 H0) os rs keep ks live j=some (c,fs',E j,S,ob))(hob:yU P ob)(hk:∀j,Dl P H0.length c (E j) S (wS P H0.length (aA P H0.length fn res H1 nst) fs')):uH P f H0 args res H1 nst:=uH.body hf hb (zFn (na:=(H0.length:Nb)) (m:=.run (sV fn)) (fs:=[]) hp hm h hob hk)
theorem uH.toFin{H0 H1:List yK}{args:List AV}{res:AV}{nst:Nat}(hf:P.funcs[f]?=some fn)(hb:fn.body.isNone=false)(n:Nat)(os:List nS)(rs:List (Option Nat×Nat×Nat))(keep ks:List Nat)(own:Bool){ob:List Ob}(h:zBk P pr H0.length fn n (.run (sV fn)) [] (args++List.replicate (fn.ntmps-args.length) (.val undef)) (V1 H0) os rs keep ks own=some (res,H1,ob))(hob:yU P ob)(hn:nst<=ks.length):uH P f H0 args res H1 nst:=uH.body hf hb (X1 (na:=(H0.length:Nb)) (m:=.run (sV fn)) (fs:=[]) hp hm h hob hn)
theorem Dl.toHead{Q:AX->List AV->yT->Prop}{c c':Code}{fs fs':List Fr}{env:List AV}{s S:yT}(n:Nat)(os:List nS)(rs:List (Option Nat×Nat×Nat))(keep ks live:List Nat){E:(Nat->Value)->List AV}{ob:List Ob}(h:∀j,D7 P pr na.n n (.run c) (.loop c::fs) env s os rs keep ks live j=some (c',fs',E j,S,ob))(hob:yU P ob)(hk:∀j,Dl P na c' (E j) S (wS P na Q fs')):Dl P na c env s (wS P na Q fs):=Dl.step (zFn hp hm (Q:=Q) (m:=.run c) (fs:=.loop c::fs) h hob hk)
theorem Dl.toFin{c:Code}{fs:List Fr}{env:List AV}{s:yT}{res:AV}{H1:List yK}{nst:Nat}(n:Nat)(os:List nS)(rs:List (Option Nat×Nat×Nat))(keep ks:List Nat)(own:Bool){ob:List Ob}(h:zBk P pr na.n fn n (.run c) (.loop c::fs) env s os rs keep ks own=some (res,H1,ob))(hob:yU P ob)(hn:nst<=ks.length):Dl P na c env s (wS P na (aA P na fn res H1 nst) fs):=Dl.step (X1 hp hm (m:=.run c) (fs:=.loop c::fs) h hob hn)
end Go.Ab
namespace Go.Ab
open Go Go.RowKit
theorem M9{P:Program}{ops:Array Oper}{Q:Exit->Act->World->Prop}{rest:List Nat}:∀(l:List (Nat×Option LA))(S S':ST),kJ P ops l S S'->∀(G:Gh)(a:Act)(w:World),mK G S a w->(∀G' a' w',wE G w G' w'->mK G' S' a' w'->wpOps P ops Q rest a' w')->wpOps P ops Q (l.map (·.1)++rest) a w|[],S,S',h,G,a,w,hR,hQ=>by simp only[kJ]at h;subst h;exact hQ G a w (wE.refl G w) hR|p::l,S,S',h,G,a,w,hR,hQ=>by obtain⟨S₁,h1,h2⟩:=h;rw[List.map_cons,List.cons_append,wpOps_cons];refine h1.wp hR λG' a' w' hE hR'=>?_;exact M9 l S₁ S' h2 G' a' w' hR' λG2 a2 w2 hE2 hR2=>hQ G2 a2 w2 (hE.trans hE2) hR2
theorem zMr{P:Program}{dst:Option Tmp}{type:TypeId}{pos:String}{after:Array Edge}{guard:Option (Nat×Bool)}{g:Operand}{args:Array Operand}{argTypes:Array TypeId}{f:FuncId}{fn:Func}{a:Act}{w:World}{K:Act->World->Prop}{Q:Exit->Act->World->Prop}(hg:a.eval g=.func (.func f) #[] #[])(hf:P.funcs[f]?=some fn)(hname:(fn.name=="runtime.NumGoroutine")=false)(hb:fn.body.isNone=false)(h:Calls P f (args.map a.eval) w λe w'=>∃u,e=.returned u/\K (a.put dst u) w'):Oper.wp P ⟨dst,.call {callee:=.value g,args:=args,argTypes:=argTypes},type,pos,after,guard⟩ a w K Q:=by
 have hrun:(execOp a.eval ⟨dst,.call {callee:=.value g,args:=args,argTypes:=argTypes},type,pos,after,guard⟩).run P w=.ok (.enter f (args.map a.eval)) w:=by
  simp only[execOp,resolve,hg,Deferred.ofValue,Sem.run_bind,Sem.run_pure,Result.andThen_ok,invoke,callFunc];have hname':¬fn.name="runtime.NumGoroutine":=by simpa using hname
  have hb':¬fn.body=none:=by intro e;rw[e]at hb;cases hb
  simp[program,Sem.run,hf,hname',hb']
 unfold Oper.wp;rw[hrun,Oper.upon_enter];refine h.mono λe w' he=>?_;obtain⟨u,rfl,hK⟩:=he;exact hK
theorem vZ.cell{F:Nat->Prop}{w w':World}(h:vZ F w w'){b o:Nat}(hb:F b):w'.cell? ⟨b,o,none⟩=w.cell? ⟨b,o,none⟩:=by simp only[World.cell?,h.block b hb]
def s5(keep:List Nat):List (Nat×yK)->List (Nat×yK)|[]=>[]|p::l=>bif sW keep p.1 then p::s5 keep l else s5 keep l
theorem iF{keep:List Nat}:∀(l:List (Nat×yK))(i:Nat),look (s5 keep l) i=if sW keep i=true then look l i else none|[],i=>by simp[s5,look]|p::l,i=>by simp only[s5];cases hb:sW keep p.1 with
 |true=>simp only[cond_true,look,iF l i];cases he:Nat.beq i p.1 with|true=>have:=Nat.eq_of_beq_eq_true he;subst this;simp only[cond_true,hb,if_true]|false=>simp only[cond_false]
 |false=>simp only[cond_false,look,iF l i];cases he:Nat.beq i p.1 with|true=>have:=Nat.eq_of_beq_eq_true he;subst this;simp[hb]|false=>simp only[cond_false]
def kM(keep:List Nat)(s:yT):yT:=⟨s5 keep s.H,s.nx,[],0,[]⟩
def yK.lit:yK->Prop|.cells cs=>∀(G G':Gh)(w w':World)(us:List Value),G'.F=G.F->(∀b o,G.F b->G.L b o->G'.L b o)->(∀b o,G.F b->w'.cell? ⟨b,o,none⟩=w.cell? ⟨b,o,none⟩)->VL G w cs us->VL G' w' cs us|_=>False
def zOY(G0 G:Gh)(keep:List Nat)(S:Nat->Nat->Prop):Gh:=⟨λi=>if sW keep i=true then G.ρ i else none,λ_=>none,λb o=>G0.L b o\/S b o,G0.w0,G0.F,λ_=>False⟩
theorem zXD{na:Nb}{G0 G:Gh}{W w w':World}{s:yT}{keep:List Nat}{S:Nat->Nat->Prop}{b:Nat}(hB:zBn na G0)(hn:na.n=0)(hE:wE G0 W G w)(hR:yM G (yV (vA 0) s) w)(hbF:¬G0.F b)(hbρ:∀i,G.ρ i≠some b)(hK:vZ (λc=>c<w.heap.size/\c≠b) w w')(hlit:∀i X,sW keep i=true->look s.H i=some X->X.lit)(hS:∀c o,S c o->c=b/\∃v,w'.cell? ⟨c,o,none⟩=some v):wE G0 W (zOY G0 G keep S) w'/\yM (zOY G0 G keep S) (yV (vA 0) (kM keep s)) w':=by
 have hLlt:∀c o,G0.L c o->c<w.heap.size/\c≠b:=λc o e=>⟨hR.base c (by rw[hE.F];exact hB.LF c o e),λec=>hbF (ec▸hB.LF c o e)⟩;have hcell:∀c o,G0.L c o->w'.cell? ⟨c,o,none⟩=w.cell? ⟨c,o,none⟩:=λc o e=>hK.cell (hLlt c o e);have hH:∀i,(yV (vA 0) (kM keep s)).H i=if sW keep i=true then look s.H i else none:=λi=>by rw[xN];exact iF _ _
 refine⟨⟨λi c e=>?_,λk r e=>?_,λ_ _ e=>.inl e,λc o e=>(hcell c o e).trans (hE.cell c o e),rfl,rfl,λc o e=>e.imp id λq=>by rw[(hS c o q).1];exact hbF,λi b m e _=>(by rw[(hB.ρ i (by omega)).1]at e;cases e),λi e=>absurd e (hB.ρ i (by omega)).2⟩,⟨λi=>?_,?_,λi j c hi hj=>?_,λi c X hi hX=>?_,λc o e=>?_,λ_ _=>rfl,λk hk=>?_,λk k' c f t f' t' hk=>?_,?_,λk hk=>?_⟩⟩;·rw[(hB.ρ i (by omega)).1]at e;cases e
 ·rw[hB.τ k]at e;cases e
 ·rw[hH];show jW (if sW keep i=true then G.ρ i else none) False _;split
  ·rename_i hm;have hd:=hR.dom i;rw[xN]at hd;refine⟨λe=>.inr ?_,λe=>⟨(hd.2.1 e).1,id⟩,λe=>e.elim⟩;rcases hd.1 e with q|q;·cases hX:look s.H i with|none=>rfl|some X=>have hl:=hlit i X hm hX;have hv:=(hd.2.2 q).2 X hX;cases X with|cells cs=>exact hv.elim|obj o=>exact hl.elim|row cs=>exact hl.elim|dead=>exact hl.elim
   ·exact q
  ·exact⟨λ_=>.inr rfl,λ_=>⟨rfl,id⟩,λe=>e.elim⟩
 ·obtain⟨N,hN⟩:=hR.fin;refine⟨N,λi hi=>?_⟩;have:=hN i hi;rw[xN]at this;rw[hH];split;·exact this
  ·rfl
 ·have hi':(if sW keep i=true then G.ρ i else none)=some c:=hi;have hj':(if sW keep j=true then G.ρ j else none)=some c:=hj;split at hi'
  ·split at hj'
   ·rename_i h1 h2;have hno:∀t,sW keep t=true->(yV (vA 0) s).H t≠some .dead:=λt ht hd=>by rw[xN]at hd;exact hlit t _ ht hd
    rcases hR.inj i j c hi' hj' with q|q|q;·exact .inl q
    ·exact(hno i h1 q).elim
    ·exact(hno j h2 q).elim
   ·cases hj'
  ·cases hi'
 ·have hi':(if sW keep i=true then G.ρ i else none)=some c:=hi;split at hi';·rename_i hm;rw[hH,if_pos hm]at hX;obtain⟨q1,q2⟩:=hR.blk i c X hi' (by rw[xN];exact hX);refine⟨by rw[hE.F]at q1;exact q1,?_⟩;have hl:=hlit i X hm hX;cases X with
   |cells cs=>
    obtain⟨vs',T,q3,q4⟩:=q2;refine⟨vs',T,?_,q4.imp λus h=>hl G _ w w' us hE.F.symm (λb o h1 h2=>?_) (λb o h1=>?_) h⟩;·rw[hK.block c ⟨(Array.getElem?_eq_some_iff.1 q3).1,λe=>hbρ i (e▸hi')⟩];exact q3
    ·exact .inl ((hE.newL b o h2).resolve_right λh=>h (by rw[<-hE.F];exact h1))
    ·exact hK.cell ⟨hR.base b h1,λe=>hbF (by rw[<-hE.F];exact e▸h1)⟩|obj o=>exact hl.elim|row cs=>exact hl.elim|dead=>exact hl.elim
  ·cases hi'
 ·rcases e with e|e
  ·obtain⟨⟨v,hv⟩,q⟩:=hR.live c o (hE.L c o e);refine⟨⟨v,(hcell c o e).trans hv⟩,λi hi=>?_⟩;have hi':(if sW keep i=true then G.ρ i else none)=some c:=hi;split at hi';·exact q i hi'
   ·cases hi'
  ·obtain⟨rfl,hv⟩:=hS c o e;refine⟨hv,λi hi=>?_⟩;have hi':(if sW keep i=true then G.ρ i else none)=some c:=hi;split at hi';·exact hbρ i hi'
   ·cases hi'
 ·simp[tV,kM]at hk
 ·simp[tV,kM]at hk
 ·have:=hR.below;rw[hE.F,hE.w0]at this;exact this.trans (hK.mono λk hk=>⟨hR.base k (by rw[hE.F];exact hk),λe=>hbF (e▸hk)⟩)
 ·exact Nat.lt_of_lt_of_le (hR.base k (by rw[hE.F];exact hk)) hK.size
theorem zMq{keep:List Nat}{s:yT}(h:s.Ok):(kM keep s).Ok:=by
 refine⟨λi X hX=>?_,λk hk=>by simp[kM]at hk,(λk h=>by cases h),Nat.zero_le _⟩;have hX':look (s5 keep s.H) i=some X:=hX;rw[iF]at hX';split at hX';·exact h.H i X hX'
 ·cases hX'
def mutEnv(keep:List Nat)(j:Nat->Value):List AV->Nat->List AV|[],_=>[]|a::l,t=>(match a with|.val v=>.val v|.mp i off=>bif sW keep i then .mp i off else .val (j t)|_=>.val (j t))::mutEnv keep j l (t+1)
theorem VL.mutEnv{G0 G:Gh}{w w':World}{keep:List Nat}{S:Nat->Nat->Prop}(us0:List Value):∀(env:List AV)(us:List Value)(t:Nat),VL G w env us->(∀i,us0.getD (t+i) undef=us.getD i undef)->VL (zOY G0 G keep S) w' (Ab.mutEnv keep (λt=>us0.getD t undef) env t) us
 |[],[],_,_,_=>by simp[Ab.mutEnv,VL]|a::as0,u::us,t,hv,hu=>by
  simp only[VL]at hv;have h0:us0.getD t undef=u:=by have:=hu 0;simpa using this
  simp only[Ab.mutEnv,VL];refine⟨?_,VL.mutEnv us0 as0 us (t+1) hv.2 (λi=>?_)⟩
  ·have h1:=hv.1;split;·simpa only[V]using h1
   ·rename_i i off;cases hm:sW keep i with|true=>simp only[V,cond_true]at h1⊢;obtain⟨c,hc,rfl⟩:=h1;exact⟨c,by show(if sW keep i=true then G.ρ i else none)=_;rw[if_pos hm];exact hc,rfl⟩|false=>simp only[cond_false,V];exact h0.symm
   ·simp only[V];exact h0.symm
  ·have:=hu (i+1);rw[show t+1+i=t+(i+1)by omega,this];simp|[],_::_,_,h,_=>by simp only[VL]at h|_::_,[],_,h,_=>by simp only[VL]at h
theorem VL.put{G:Gh}{w:World}:∀(as0:List AV)(us:List Value),VL G w as0 us->∀(i:Nat)(a:AV),(∀u,us[i]?=some u->V G w a u)->VL G w (as0.set i a) us
 |[],[],_,i,a,_=>by simp[VL]|x::as0,y::us,h,i,a,hv=>by simp only[VL]at h;cases i with|zero=>simp only[List.set_cons_zero,VL];exact⟨hv y rfl,h.2⟩|succ i=>simp only[List.set_cons_succ,VL];exact⟨h.1,VL.put as0 us h.2 i a λu hu=>hv u (by simpa using hu)⟩
 |[],_::_,h,_,_,_=>by simp only[VL]at h|_::_,[],h,_,_,_=>by simp only[VL]at h
def vV:Code->Array Oper|.region _ ops _=>ops|_=>#[]
def s6:Code->Bool|.region _ _ false=>true|_=>false
def zWL:Code->Bool|.ret=>true|_=>false
def zMp:Option Oper->Option (Option Tmp×Operand)|some ⟨d,.move x,_,_,_,none⟩=>some (d,x)|some ⟨d,.assign x,_,_,_,none⟩=>some (d,x)|_=>none
def zID:Option Oper->Option (Option Tmp×FuncId×Array Operand)|some ⟨d,.call {callee:=.value (.func f),args,argTypes:=_},_,_,_,none⟩=>some (d,f,args)|_=>none
section
variable{P:Program}{a:Act}{w:World}{Q:Exit->Act->World->Prop}
theorem zDH{c:Code}(hk:knd c=1)(h:(fS c).wp P (Exit.then ((rR c).wp P Q) Q) a w):c.wp P Q a w:=by cases c<;>first|exact wp_seq h|cases hk
theorem A3{c:Code}(hk:s6 c=true){l:List Nat}(hl:List.range (vV c).size=l)(h:wpOps P (vV c) Q l a w):c.wp P Q a w:=by subst hl;cases c with
 |region id ops draw=>cases draw with|false=>exact wp_region h|true=>cases hk
 |_=>cases hk
theorem zSN{c:Code}(hk:zWL c=true)(h:Q .ret a w):c.wp P Q a w:=by cases c<;>first|exact wp_ret h|cases hk
theorem E2{ops:Array Oper}{rest:List Nat}{i:Nat}{d:Option Tmp}{x:Operand}(hop:zMp ops[i]?=some (d,x))(h:wpOps P ops Q rest (a.put d (a.eval x)) w):wpOps P ops Q (i::rest) a w:=by
 rw[wpOps_cons];unfold wpOp;unfold zMp at hop;split at hop
 ·rename_i o e;cases hop;rw[e];simp only[Region.wanted,if_true];refine .inl ?_;unfold Oper.wp;simpa[execOp,Oper.upon]using h
 ·rename_i o e;cases hop;rw[e];simp only[Region.wanted,if_true];refine .inl ?_;unfold Oper.wp;simpa[execOp,Oper.upon]using h
 ·cases hop
theorem s7{ops:Array Oper}{rest:List Nat}{i:Nat}{d:Option Tmp}{args:Array Operand}{f:FuncId}{fn:Func}(hop:zID ops[i]?=some (d,f,args))(hf:P.funcs[f]?=some fn)(hname:(fn.name=="runtime.NumGoroutine")=false)(hb:fn.body.isNone=false)(h:Calls P f (args.map a.eval) w λe w'=>∃u,e=.returned u/\wpOps P ops Q rest (a.put d u) w'):wpOps P ops Q (i::rest) a w:=by
 rw[wpOps_cons];unfold wpOp;unfold zID at hop;split at hop;·rename_i e;cases hop;rw[e];simp only[Region.wanted,if_true];exact .inl (zMr (f:=f) (fn:=fn) rfl hf hname hb h)
 ·cases hop
end
def tells:List (Nat×AV)->List AV->List AV|[],env=>env|p::l,env=>tells l (env.set p.1 p.2)
theorem VL.tells{G:Gh}{w:World}:∀(l:List (Nat×AV))(as0:List AV)(us:List Value),VL G w as0 us->(∀p∈l,∀u,us[p.1]?=some u->V G w p.2 u)->VL G w (Ab.tells l as0) us|[],_,_,h,_=>h|p::l,as0,us,h,k=>VL.tells l _ us (VL.put as0 us h p.1 p.2 (k p List.mem_cons_self)) λq hq=>k q (List.mem_cons_of_mem _ hq)
theorem VL.getE{G:Gh}{w:World}{env:List AV}{us:List Value}(h:VL G w env us){t:Nat}{u:Value}(hu:us[t]?=some u):V G w (eget env t) u:=by
 have:=V.eget env us h t;have e:us.getD t undef=u:=by simp[List.getD,hu]
 rwa[e]at this
theorem Dv.mut{P:Program}{pr:FuncId->List AV->yT->Option LA}(hp:sQ P pr){na:Nb}(hn:na.n=0){Q:AX->List AV->yT->Prop}{id:Nat}{ops:Array Oper}{env env1:List AV}{s s1 s3:yT}{os os2:List nS}{ob ob2:List Ob}(p:Nat)(keep:List Nat)(tell:List (Nat×AV))(res:AV){dst:Option Tmp}{tA:Tmp}{f:FuncId}{fn:Func}{E3:(Nat->Value)->List AV}(h1':(V2 P pr ops (ops.toList.take p) 0 env s os).map Prod.snd=some (env1,s1,[],ob))(hob:yU P ob)(hop:zID ops[p]?=some (dst,f,#[.tmp tA]))(hf:P.funcs[f]?=some fn)(hname:(fn.name=="runtime.NumGoroutine")=false)(hb:fn.body.isNone=false)(hlit:∀i X,sW keep i=true->look s1.H i=some X->X.lit)(hcall:∀G0 W,zBn na G0->∀G w,wE G0 W G w->yM G (yV (vA 0) s1) w->∀u,V G w (eget env1 tA) u->Calls P f #[u] w λe w'=>∃(v:Value)(b:Nat)(S:Nat->Nat->Prop),e=.returned v/\¬G.F b/\(∀i,G.ρ i≠some b)/\vZ (λc=>c<w.heap.size/\c≠b) w w'/\(∀c o,S c o->c=b/\∃x,w'.cell? ⟨c,o,none⟩=some x)/\∀G',wE G0 W G' w'->vZ G'.F G'.w0 w'->(∀c o,S c o->G'.L c o)->V G' w' res v/\∀q∈tell,∀u',V G w (eget env1 q.1) u'->V G' w' q.2 u')(h2':∀j,(V2 P pr ops (ops.toList.drop (p+1)) (p+1) (eset (tells tell (mutEnv keep j env1 0)) dst res) (kM keep s1) os2).map Prod.snd=some (E3 j,s3,[],ob2))(hob2:yU P ob2)(hk:∀j,Q .normal (E3 j) s3):Dv P na (.region id ops false) env s Q:=by
 have mp:∀{x:Option (List (Nat×Option LA)×List AV×yT×List nS×List Ob)}{y},x.map Prod.snd=some y->∃r,x=some (r,y):=by intro x y h;simp only[Option.map_eq_some_iff]at h;obtain⟨⟨r,z⟩,h1,rfl⟩:=h;exact⟨r,h1⟩
 obtain⟨r,h1⟩:=mp h1';intro G0 W hB G a w hE hok hR;have hlt:p<ops.size:=by
  rcases Nat.lt_or_ge p ops.size with h|h;·exact h
  ·rw[Array.getElem?_eq_none h]at hop;cases hop
 obtain⟨_,q2,q3⟩:=X0 hp (ops.toList.take p) 0 env s os r _ _ _ _ (λk o e=>by
  rw[List.getElem?_take]at e;split at e;·simpa using e
  ·cases e) h1 hob;obtain⟨o1,r1⟩:=q3 (vA 0) 0 hok (λ_ _ _=>rfl);refine wp_region ?_;have hr:List.range ops.size=r.map (·.1)++p::List.range' (p+1) (ops.size-(p+1)):=by
  rw[q2,List.range_eq_range'];have hl:(ops.toList.take p).length=p:=by simp;omega
  rw[hl,show p::List.range' (p+1) (ops.size-(p+1))=List.range' p (ops.size-p)by rw[show ops.size-p=(ops.size-(p+1))+1 by omega,List.range'_succ]];have:=List.range'_append (s:=0) (m:=p) (n:=ops.size-p) (step:=1);simp only[Nat.one_mul,Nat.zero_add]at this;rw[this];congr 1;omega
 rw[hr];refine M9 r _ _ r1 G a w hR λG1 a1 w1 hE1 hR1=>?_;have hEE:=hE.trans hE1;have hu:V G1 w1 (eget env1 tA) (a1.eval (.tmp tA)):=by have:=V.aev hR1.env (.tmp tA);simpa[aev]using this
 refine s7 hop hf hname hb ?_;rw[show Array.map a1.eval #[Operand.tmp tA]=#[a1.eval (Operand.tmp tA)]by simp];refine(hcall G0 W hB G1 w1 hEE hR1.st _ hu).mono ?_;rintro e w2⟨v,b,S,rfl,hbF,hbρ,hK,hS,hV⟩;refine⟨v,rfl,?_⟩;obtain⟨hE2,hR2⟩:=zXD (keep:=keep) hB hn hEE hR1.st (by rw[<-hEE.F];exact hbF) hbρ hK hlit hS;obtain⟨hv,ht⟩:=hV _ hE2 hR2.below (λc o h=>.inr h);have henv:VL (zOY G0 G1 keep S) w2 (eset (tells tell (mutEnv keep (λt=>a1.tmps.toList.getD t undef) env1 0)) dst res) (a1.put dst v).tmps.toList:=by refine VL.eset ?_ dst hv;refine VL.tells tell _ _ (VL.mutEnv _ env1 _ 0 hR1.env (λi=>by rw[Nat.zero_add])) λq hq u' hu'=>ht q hq u' (hR1.env.getE hu')
 have hR3:mK (zOY G0 G1 keep S) ⟨eset (tells tell (mutEnv keep (λt=>a1.tmps.toList.getD t undef) env1 0)) dst res,yV (vA 0) (kM keep s1)⟩ (a1.put dst v) w2:=⟨hR2,henv,by rw[zDh];exact hR1.dfr⟩;have hok2:=zMq (keep:=keep) o1;obtain⟨r2,h2⟩:=mp (h2' λt=>a1.tmps.toList.getD t undef);obtain⟨_,q5,q6⟩:=X0 hp (ops.toList.drop (p+1)) (p+1) _ _ os2 r2 _ _ _ _ (λk o e=>by rw[List.getElem?_drop]at e;simpa using e) h2 hob2;obtain⟨o3,r3⟩:=q6 (vA 0) 0 hok2 (λ_ _ _=>rfl);have e5:List.range' (p+1) (ops.size-(p+1))=r2.map (·.1)++[]:=by rw[q5,List.append_nil];simp
 rw[e5];refine M9 r2 _ _ r3 _ _ w2 hR3 λG4 a4 w4 hE4 hR4=>?_;exact⟨.normal,_,s3,G4,rfl,hk _,hE2.trans hE4,o3,hR4⟩
theorem yAn{c:Code}(hk:s6 c=true):∃id,c=.region id (vV c) false:=by cases c with
 |region id ops draw=>cases draw with|false=>exact⟨id,rfl⟩|true=>cases hk
 |_=>cases hk
theorem Dv.seqP{P:Program}{na:Nb}{c:Code}{env:List AV}{s:yT}{Q:AX->List AV->yT->Prop}(hk:knd c=1)(h:Dv P na (fS c) env s (zOG (λe s=>Dv P na (rR c) e s Q) Q)):Dv P na c env s Q:=by cases c<;>first|exact Dv.seq h|cases hk
open Go.Lib
def s8(x:Int):List Int->List Int|[]=>[x]|y::l=>if x<=y then x::y::l else y::s8 x l
def aL:List Int->List Int|[]=>[]|x::l=>s8 x (aL l)
def oV:List Int->List Int|[]=>[]|x::l=>match l with|[]=>[x]|y::_=>if x=y then oV l else x::oV l
def wX(l:List Int):List Int:=oV (aL l)
theorem A4(x:Int):∀l,(s8 x l).Perm (x::l)
 |[]=>.refl _|y::l=>by
  simp only[s8];split;·exact .refl _
  ·exact((A4 x l).cons y).trans (.swap x y l)
theorem iG:∀l,(aL l).Perm l|[]=>.refl _|x::l=>(A4 x (aL l)).trans ((iG l).cons x)
theorem E4(x:Int):∀l,l.Pairwise (·<=·)->(s8 x l).Pairwise (·<=·)
 |[],_=>by simp[s8]|y::l,h=>by
  simp only[s8];rw[List.pairwise_cons]at h;split
  ·rename_i hxy;rw[List.pairwise_cons];refine⟨λz hz=>?_,List.pairwise_cons.2 h⟩;rcases List.mem_cons.1 hz with rfl|hz;·exact hxy
   ·exact Int.le_trans hxy (h.1 z hz)
  ·rename_i hxy;rw[List.pairwise_cons];refine⟨λz hz=>?_,E4 x l h.2⟩;rcases List.mem_cons.1 ((A4 x l).mem_iff.1 hz)with rfl|hz;·omega
   ·exact h.1 z hz
theorem iH:∀l,(aL l).Pairwise (·<=·)|[]=>.nil|x::l=>E4 x _ (iH l)
theorem V3(l:List Int):l.mergeSort (λx y=>decide (x<=y))=aL l:=by
 have h1:(l.mergeSort (λx y=>decide (x<=y))).Perm (aL l):=(List.mergeSort_perm l _).trans (iG l).symm;have h2:(l.mergeSort (λx y=>decide (x<=y))).Pairwise (·<=·):=by have:=List.pairwise_mergeSort (le:=λ(x y:Int)=>decide (x<=y)) (λa b c h1 h2=>by simp only[decide_eq_true_eq]at*;omega) (λa b=>by simp only[Bool.or_eq_true,decide_eq_true_eq];omega) l;exact this.imp λh=>by simpa using h
 exact h1.eq_of_pairwise (λa b _ _ h1 h2=>Int.le_antisymm h1 h2) h2 (iH l)
theorem pM(x y:Int)(l:List Int):oV (x::y::l)=if x=y then oV (y::l)else x::oV (y::l):=rfl
theorem zBR(x:Int):∀l:List Int,oV (l++[x])=if l=[]\/l.getLast?≠some x then oV l++[x]else oV l
 |[]=>by simp[oV]|[y]=>by
  show oV (y::x::[])=_;rw[pM];by_cases h:y=x;·subst h;simp[oV]
  ·simp[h,oV]|y::z::l=>by
  have ih:=zBR x (z::l);show oV (y::z::(l++[x]))=_;rw[pM,pM];simp only[List.cons_append]at ih;rw[ih];have e:(y::z::l).getLast?=(z::l).getLast?:=by simp[List.getLast?_cons_cons]
  rw[e];by_cases h:y=z;·simp only[h,if_true];split<;>split<;>simp_all
  ·simp only[h,if_false];split<;>split<;>simp_all
theorem E5(zs:List Int):∀m,m<=zs.length->compactUpTo zs.toArray m=oV (zs.take m)
 |0,_=>by simp[compactUpTo,oV]|m+1,h=>by
  rw[compactUpTo_succ,E5 zs m (by omega),List.take_succ_eq_append_getElem (by omega),zBR];have hm:zs.toArray[m]! =zs[m]:=by simp[show m<zs.length by omega]
  rcases Nat.eq_zero_or_pos m with rfl|hpos;·simp[keeps,oV,show 0<zs.length by omega]
  ·have hl:(zs.take m).getLast?=some zs[m-1]:=by rw[List.getLast?_eq_getElem?,List.length_take,Nat.min_eq_left (show m<=zs.length by omega),List.getElem?_take_of_lt (show m-1<m by omega),List.getElem?_eq_getElem (show m-1<zs.length by omega)]
   have hm':zs.toArray[m-1]! =zs[m-1]:=by simp[show m-1<zs.length by omega]
   have hne:¬zs.take m=[]:=by intro e;have:=congrArg List.length e;rw[List.length_take,Nat.min_eq_left (show m<=zs.length by omega),List.length_nil]at this;omega
   rw[hl];simp only[hne,false_or,ne_eq,Option.some.injEq];by_cases e:zs[m]=zs[m-1];·rw[keeps_neg hpos (by rw[hm,hm',e])];simp[e]
   ·rw[keeps_pos (by rw[hm,hm'];exact e)];have e':¬zs[m-1]=zs[m]:=λh=>e h.symm;simp[e',hm]
theorem zMo(l:List Int):compactUpTo (l.mergeSort λx y=>decide (x<=y)).toArray (l.mergeSort λx y=>decide (x<=y)).toArray.size=wX l:=by rw[V3];have:=E5 (aL l) (aL l).length (Nat.le_refl _);rw[List.take_length]at this;simpa[wX]using this
theorem zFd:∀l:List Int,(oV l).length<=l.length
 |[]=>by simp[oV]|[x]=>by simp[oV]|x::y::l=>by
  rw[pM];have:=zFd (y::l);split;·simp at this⊢;omega
  ·simp at this⊢;omega
theorem s9(l:List Int):(wX l).length<=l.length:=by have:=zFd (aL l);rw[(iG l).length_eq]at this;exact this
end Go.Ab
namespace Go.Ab
open Go Go.RowKit Go.Sort
variable{P:Program}
theorem Calls.args{P:Program}{f:FuncId}{a b:Array Value}{w:World}{R:Ending->World->Prop}(h:a=b)(k:Calls P f b w R):Calls P f a w R:=h▸k
theorem zOZ{P:Program}{c:Code}{Q:Exit->Act->World->Prop}{a b:Act}{w:World}(h:a=b)(k:c.wp P Q b w):c.wp P Q a w:=h▸k
theorem E6{α:Type}[Inhabited α](enc:α->Value)(w:World)(b off:Nat)(d:Array α){k:Nat}(hk:k≠b):(putRow enc w b off d).heap[k]?=w.heap[k]?:=by simp only[putRow,mapBlock,Array.getElem?_modify];rw[if_neg (λe=>hk e.symm)]
theorem vZ.putRow{α:Type}[Inhabited α](enc:α->Value)(w:World)(n b off:Nat)(d:Array α):vZ (λc=>c<w.heap.size/\c≠b) w (putRow enc (Sort.ahead w n) b off d):=⟨rfl,rfl,rfl,by simp,λk hk=>by rw[E6 _ _ _ _ _ hk.2];rfl⟩
theorem vZ.grow(w:World)(os:Array Obj)(b:Nat):vZ (λc=>c<w.heap.size/\c≠b) w (grow w os):=⟨rfl,rfl,rfl,by simp[Sort.grow],λk hk=>by show(w.heap++os)[k]?=_;rw[Array.getElem?_append_left hk.1]⟩
end Go.Ab
namespace Go.Proofs.YthncchbcdpbgaaaGreat
open Go Go.Ab Go.RowKit Go.Sort Go.Proofs Go.Proofs.Tryz
theorem zMn{w:World}{b off cap:Nat}{zs:List Int}(hH:Holds (Value.int .i64) w b off zs.toArray)(hb:b<w.heap.size)(hsz:zs.length<4611686018427387904):Calls prog 292 #[.slice (some ⟨b,off,none⟩) zs.length cap] w λe w'=>e=.returned (.tuple #[])/\∃n os,w'=Sort.grow (putRow (Value.int .i64) (Sort.ahead w n) b off (zs.mergeSort λx y=>decide (x<=y)).toArray) os:=AnyM.slices_Sort_int Tryz.sortI b off cap zs w hH hb hsz
theorem zDI{w:World}{b off cap:Nat}{zs:List Int}(hH:Holds (Value.int .i64) w b off zs.toArray)(hsz:zs.length<4611686018427387904)(hcap:zs.length<=cap):Calls prog 293 #[.slice (some ⟨b,off,none⟩) zs.length cap] w λe w'=>e=.returned (.slice (some ⟨b,off,none⟩) (Go.Lib.compactUpTo zs.toArray zs.toArray.size).length cap)/\∃q,w'=putRow (Value.int .i64) (Sort.ahead w q) b off (Go.Lib.compactUpTo zs.toArray zs.toArray.size++List.replicate (zs.toArray.size-(Go.Lib.compactUpTo zs.toArray zs.toArray.size).length) 0).toArray:=by have:=AnyE.slices_Compact Tryz.cmpI (Value.int .i64) (λ_=>rfl) (EqlAt.intD _ _ .i64) (NeqAt.intD _ _ .i64) 0 Tryz.zeroValue3 b off cap zs.toArray w hH (by simp;omega) (by simpa using hcap);simpa[show Tryz.cmpI_ren.f 43=293 from rfl]using this
theorem zBS{w:World}{u:Value}{M:World->Prop}{N:World->Value->Prop}(hs:Calls prog 292 #[u] w λe w1=>e=.returned (.tuple #[])/\M w1)(hc:∀w1,M w1->Calls prog 293 #[u] w1 λe w2=>∃v,e=.returned v/\N w2 v):Calls prog 250 #[u] w λe w'=>∃v,e=.returned v/\N w' v:=by
 refine calls_of_wp func250 (c:=sV f250) (by kernel_rfl) ?_;have k0:knd (sV f250)=1:=by kernel_rfl
 have k1:s6 (fS (sV f250))=true:=by kernel_rfl
 have k2:List.range (vV (fS (sV f250))).size=[0]:=by kernel_rfl
 have k3:zMp (vV (fS (sV f250)))[0]?=some (some 2,.const (.slice none 0 0)):=by kernel_rfl
 have k4:knd (rR (sV f250))=1:=by kernel_rfl
 have k5:s6 (fS (rR (sV f250)))=true:=by kernel_rfl
 have k6:List.range (vV (fS (rR (sV f250)))).size=[0,1]:=by kernel_rfl
 have k7:zMp (vV (fS (rR (sV f250))))[0]?=some (some 3,.tmp 0):=by kernel_rfl
 have k8:zID (vV (fS (rR (sV f250))))[1]?=some (some 4,292,#[.tmp 3]):=by kernel_rfl
 have k9:knd (rR (rR (sV f250)))=1:=by kernel_rfl
 have k10:s6 (fS (rR (rR (sV f250))))=true:=by kernel_rfl
 have k11:List.range (vV (fS (rR (rR (sV f250))))).size=[0,1,2]:=by kernel_rfl
 have k12:zMp (vV (fS (rR (rR (sV f250)))))[0]?=some (some 5,.tmp 0):=by kernel_rfl
 have k13:zID (vV (fS (rR (rR (sV f250)))))[1]?=some (some 6,293,#[.tmp 5]):=by kernel_rfl
 have k14:zMp (vV (fS (rR (rR (sV f250)))))[2]?=some (some 2,.tmp 6):=by kernel_rfl
 have k15:zWL (rR (rR (rR (sV f250))))=true:=by kernel_rfl
 have k16:(f292.name=="runtime.NumGoroutine")=false:=by kernel_rfl
 have k17:f292.body.isNone=false:=by kernel_rfl
 have k18:(f293.name=="runtime.NumGoroutine")=false:=by kernel_rfl
 have k19:f293.body.isNone=false:=by kernel_rfl
 have k20:f250.ntmps=7:=by kernel_rfl
 have k21:f250.results=#[.tmp 2]:=by kernel_rfl
 rw[k20];revert k0 k1 k2 k3 k4 k5 k6 k7 k8 k9 k10 k11 k12 k13 k14 k15;generalize sV f250=B;intro k0 k1 k2 k3 k4 k5 k6 k7 k8 k9 k10 k11 k12 k13 k14 k15;refine zDH k0 ?_;refine A3 k1 k2 ?_;refine E2 k3 ?_;unfold wpOps;unfold Exit.then;dsimp only;refine zDH k4 ?_;refine A3 k5 k6 ?_;refine E2 k7 ?_;refine s7 k8 func292 k16 k17 ?_;refine Calls.args (b:=#[u]) (by simp[Act.eval,Act.put]) (Calls.mono hs ?_);rintro e w1⟨rfl,hM⟩;refine⟨_,rfl,?_⟩;unfold wpOps;unfold Exit.then;dsimp only;refine zOZ (b:=⟨#[u,undef,.slice none 0 0,u,.tuple #[],undef,undef],[]⟩) (by simp[Act.eval,Act.put,Array.replicate_succ]) ?_;refine zDH k9 ?_;refine A3 k10 k11 ?_;refine E2 k12 ?_;refine s7 k13 func293 k18 k19 ?_;refine Calls.args (b:=#[u]) (by simp[Act.eval,Act.put]) (Calls.mono (hc w1 hM) ?_);rintro e w2⟨v,rfl,hN⟩;refine⟨_,rfl,?_⟩;refine E2 k14 ?_;unfold wpOps;unfold Exit.then;dsimp only;refine zOZ (b:=⟨#[u,undef,v,u,.tuple #[],u,v],[]⟩) (by simp[Act.eval,Act.put]) ?_;refine zSN k15 ?_;exact⟨rfl,v,by simp[results,k21],v,rfl,hN⟩
theorem zMm{w:World}{b off cap:Nat}{zs:List Int}(hH:Holds (Value.int .i64) w b off zs.toArray)(hb:b<w.heap.size)(hsz:zs.length<4611686018427387904)(hcap:zs.length<=cap):Calls prog 250 #[.slice (some ⟨b,off,none⟩) zs.length cap] w λe w'=>e=.returned (.slice (some ⟨b,off,none⟩) (wX zs).length cap)/\vZ (λc=>c<w.heap.size/\c≠b) w w'/\∀i(h:i<(wX zs).length),w'.cell? ⟨b,off+i,none⟩=some (.int .i64 (wX zs)[i]):=by
 have hl:(zs.mergeSort λx y=>decide (x<=y)).length=zs.length:=List.length_mergeSort _;refine(zBS (zMn (cap:=cap) hH hb hsz) (N:=λw' v=>v=.slice (some ⟨b,off,none⟩) (wX zs).length cap/\vZ (λc=>c<w.heap.size/\c≠b) w w'/\∀i(h:i<(wX zs).length),w'.cell? ⟨b,off+i,none⟩=some (.int .i64 (wX zs)[i])) ?_).mono (λe w'⟨v,h1,h2,h3,h4⟩=>⟨by rw[h1,h2],h3,h4⟩);rintro w1⟨n,os,rfl⟩;have hH1:Holds (Value.int .i64) (Sort.grow (putRow (Value.int .i64) (Sort.ahead w n) b off (zs.mergeSort λx y=>decide (x<=y)).toArray) os) b off (zs.mergeSort λx y=>decide (x<=y)).toArray:=holds_grow _ _ _ _ _ _ (by simpa using hb) (holds_putRow _ _ _ _ zs.toArray _ hH (by simp[hl]));have hc:=zDI (cap:=cap) hH1 (by omega) (by omega);rw[hl]at hc;refine Calls.mono hc ?_;rintro e w2⟨rfl,q,rfl⟩;refine⟨_,rfl,?_⟩;rw[zMo];have hrl:=s9 zs;refine⟨rfl,(vZ.trans (vZ.trans (vZ.putRow _ w n b off _) ((vZ.grow _ os b).mono λk hk=>⟨by simpa using hk.1,hk.2⟩)) ((vZ.putRow _ _ q b off _).mono λk hk=>⟨?_,hk.2⟩)),λi h=>?_⟩;·show k<((putRow _ _ _ _ _).heap++os).size;simp;have:=hk.1;omega
 ·rw[cell?_putRow (Value.int .i64) _ b off (zs.mergeSort λx y=>decide (x<=y)).toArray _ (holds_ahead _ _ _ _ _ _ hH1) (by simp[hl];omega) i (by simp;omega)];simp[List.getElem?_append_left h,h]
theorem yAm:uH prog 293 [] [.sl [] 0 .no] (.sl [] 0 .no) [] 0:=uH.toFin wN mixed func293 (by kernel_rfl) 3000 [.no,.no] [] [] [] false (by kernel_rfl) (yU.cons (t8 (es:=[]) trivial) yU.nil) (by decide)
def atW(w:World):Gh:=⟨λ_=>none,λ_=>none,λ_ _=>False,w,λc=>c<w.heap.size,λ_=>False⟩
theorem zSO(w:World):yM (atW w) (yV (vA 0) (V1 [])) w:=by
 refine⟨λ_=>⟨λ_=>.inr rfl,λ_=>⟨rfl,id⟩,λe=>e.elim⟩,⟨0,λ_ _=>rfl⟩,λ_ _ _ h=>?_,λ_ _ _ h=>?_,λ_ _ h=>False.elim h,λ_ _=>rfl,λ_ h=>?_,λ_ _ _ _ _ _ _ h=>?_,vZ.refl _ _,λ_ h=>h⟩;·cases h
 ·cases h
 ·cases h
 ·cases h
theorem zPz(w:World):zBn (0:Nat) (atW w):=⟨λ_ _=>⟨rfl,id⟩,λ_=>rfl,λ_ _ h=>False.elim h,trivial⟩
theorem V.none{G G':Gh}{w w':World}{v:Value}(h:V G w (.sl [] 0 .no) v):V G' w' (.sl [] 0 .no) v:=by
 simp only[V]at h⊢;obtain⟨cap,h1,⟨_,_,h2,h3,_⟩|⟨b,off,h2,_,_⟩⟩:=h;·exact⟨cap,h1,.inl ⟨trivial,trivial,h2,h3,trivial⟩⟩
 ·exact⟨cap,h1,.inr ⟨b,off,h2,by simp only[VC],trivial⟩⟩
theorem zMl{w:World}{u:Value}{p:Option Addr}{cap:Nat}(hu:u=.slice p 0 cap){G:Gh}(hV:V G w (.sl [] 0 .no) u):Calls prog 250 #[u] w λe w'=>∃v,e=.returned v/\(vZ (λc=>c<w.heap.size) w w'/\∀G',V G' w' (.sl [] 0 .no) v):=by
 refine zBS (M:=λw1=>w1=w) (by subst hu;exact AnyM.slices_Sort_int_none Tryz.sortI p cap w) ?_;rintro w1 rfl;refine(yAm (atW w1) w1 #[u] (zPz w1) (zSO w1) ?_).mono ?_;·simp only[VL];exact⟨V.none hV,trivial⟩
 ·rintro e w2⟨v,G',s',rfl,hE,hR,hv,_⟩;refine⟨v,rfl,?_,λG'=>V.none hv⟩;have:=hR.below;rw[hE.F,hE.w0]at this;exact this
theorem VL.ints{G:Gh}{w:World}:∀l:List Int,VL G w (zH zW l) (l.map (Value.int .i64))|[]=>by simp[zH,VL]|x::l=>by simp only[zH,List.flatMap_cons,List.map_cons];simp only[zW,List.cons_append,List.nil_append,VL,V];exact⟨trivial,VL.ints l⟩
theorem VL.ints_eq{G:Gh}{w:World}:∀(l:List Int)(us:List Value),VL G w (zH zW l) us->us=l.map (Value.int .i64)|[],[],_=>rfl|[],_::_,h=>by simp only[zH,List.flatMap_nil,VL]at h|x::l,[],h=>by simp only[zH,List.flatMap_cons,zW,List.cons_append,VL]at h|x::l,u::us,h=>by simp only[zH,List.flatMap_cons,zW,List.cons_append,List.nil_append,VL,V]at h;rw[h.1,VL.ints_eq l us h.2];rfl
theorem zBT{G:Gh}{w:World}{s:yT}{k:Nat}{l:List Int}{u:Value}(hR:yM G (yV (vA 0) s) w)(ho:s.own.any (Nat.beq k)=true)(hsz:l.length<4611686018427387904)(hu:V G w (.sl (zH zW l) l.length (.st k 1)) u):Calls prog 250 #[u] w λe w'=>∃(v:Value)(b:Nat)(S:Nat->Nat->Prop),e=.returned v/\¬G.F b/\(∀i,G.ρ i≠some b)/\vZ (λc=>c<w.heap.size/\c≠b) w w'/\(∀c o,S c o->c=b/\∃x,w'.cell? ⟨c,o,none⟩=some x)/\∀G',(∀c o,S c o->G'.L c o)->V G' w' (.sl (zH zW (wX l)) (wX l).length .no) v:=by
 have hempty:l=[]->∀p cap,u=.slice p 0 cap->V G w (.sl [] 0 .no) u->Calls prog 250 #[u] w λe w'=>∃(v:Value)(b:Nat)(S:Nat->Nat->Prop),e=.returned v/\¬G.F b/\(∀i,G.ρ i≠some b)/\vZ (λc=>c<w.heap.size/\c≠b) w w'/\(∀c o,S c o->c=b/\∃x,w'.cell? ⟨c,o,none⟩=some x)/\∀G',(∀c o,S c o->G'.L c o)->V G' w' (.sl (zH zW (wX l)) (wX l).length .no) v:=by rintro rfl p cap hp hV;refine(zMl hp hV).mono ?_;rintro e w'⟨v,rfl,hK,hv⟩;exact⟨v,w.heap.size,λ_ _=>False,rfl,λh=>Nat.lt_irrefl _ (hR.base _ h),λi hi=>Nat.lt_irrefl _ (hR.ρ_lt hi),hK.mono λk hk=>hk.1,λ_ _ h=>h.elim,λG' _=>hv G'⟩
 have hu0:=hu;simp only[V]at hu;obtain⟨cap,hcap,⟨he,hn,hc0,hu',_⟩|⟨b,off,rfl,hC,hq,hO⟩⟩:=hu
 ·have hl:l=[]:=List.length_eq_zero_iff.1 hn;subst hl;exact hempty rfl (gS u) 0 hu' (by simp only[V];exact⟨0,Nat.le_refl _,.inl ⟨trivial,trivial,rfl,hu',trivial⟩⟩)
 ·rcases hO with⟨hn,_⟩|⟨hm,hF,hτ⟩
  ·have hl:l=[]:=List.length_eq_zero_iff.1 hn;subst hl;exact hempty rfl _ cap rfl (by simp only[V];exact⟨cap,Nat.zero_le _,.inr ⟨b,off,rfl,by simp only[VC],trivial⟩⟩)
  ·obtain⟨b',f,t,q1,q2⟩:=hR.own k (by rw[tV];exact ho);rw[hτ]at q1;cases q1;rcases q2 with q2|⟨_,q3,_,vs,T,q5,q6⟩;·omega
   obtain⟨us,h1,h2⟩:=VC.cells _ _ _ hC;have hus:=VL.ints_eq l us h1;subst hus;have hH:Holds (Value.int .i64) w b off l.toArray:=by
    intro j hj;have hj':j<l.length:=by simpa using hj
    refine⟨?_,by simp[World.frozen?,q5]⟩;rw[h2 j (by simpa using hj')];simp[hj']
   have hb:b<w.heap.size:=(Array.getElem?_eq_some_iff.1 q5).1;refine(zMm hH hb hsz hcap).mono ?_;rintro e w'⟨rfl,hK,hcell⟩;refine⟨_,b,λc o=>c=b/\off<=o/\o<off+(wX l).length,rfl,hF,q3,hK,?_,λG' hS=>?_⟩;·rintro c o⟨rfl,h1,h2⟩;exact⟨rfl,.int .i64 ((wX l)[o-off]'(by omega)),by have:=hcell (o-off) (by omega);rwa[show off+(o-off)=o by omega]at this⟩
   ·simp only[V];refine⟨cap,Nat.le_trans (s9 l) hcap,.inr ⟨b,off,rfl,VC.of_cells _ _ b off (VL.ints (wX l)) (λi hi=>hS _ _ ⟨rfl,by omega,?_⟩) (λi hi=>?_),trivial⟩⟩
    ·have:i<(wX l).length:=by simpa using hi
     omega
    ·rw[hcell i (by simpa using hi)];simp
end Go.Proofs.YthncchbcdpbgaaaGreat
namespace Go.Ab
open Go Go.RowKit
def lU:List (ByteArray×Int)->Nat->List MapEntry|[],_=>[]|p::m,c=>{key:=.string p.1,val:=.int .i64 p.2,born:=c}::lU m (c+1)
def p7(m:List (ByteArray×Int)):yK:=.obj (.map ⟨lU m 0⟩ m.length)
def nJ:List (ByteArray×Int)->ByteArray->Int|[],_=>0|p::m,k=>if(k==p.1)=true then p.2 else nJ m k
def A5:List (ByteArray×Int)->ByteArray->Int->List (ByteArray×Int)|[],k,v=>[(k,v)]|p::m,k,v=>if(k==p.1)=true then(k,v)::m else p::A5 m k v
def zBj:List (ByteArray×Int)->ByteArray->Nat->Option (Nat×Value)|[],_,_=>none|p::m,k,i=>if(k==p.1)=true then some (i,.int .i64 p.2)else zBj m k (i+1)
theorem iI(k:ByteArray):∀(m:List (ByteArray×Int))(c i:Nat),Instr.findNow .string (.string k) (lU m c) i=some (zBj m k i)|[],_,_=>rfl|p::m,c,i=>by simp only[lU,Instr.findNow,Instr.sameNow,zBj];cases hb:(k==p.1)with|true=>rfl|false=>simp only[Bool.false_eq_true,if_false];exact iI k m (c+1) (i+1)
theorem zFc(k:ByteArray):∀(m:List (ByteArray×Int))(i:Nat),zOA (zBj m k i) (.int .i64 0)=ai (nJ m k)|[],_=>rfl|p::m,i=>by simp only[zBj,nJ];cases hb:(k==p.1)with|true=>rfl|false=>simp only[Bool.false_eq_true,if_false];exact zFc k m (i+1)
theorem zFb(k:ByteArray)(v:Int):∀(m:List (ByteArray×Int))(c i:Nat),(match zBj m k i with|some (j,_)=>i<=j/\(lU m c).modify (j-i) (λe=>{e with key:=.string k,val:=.int .i64 v})=lU (A5 m k v) c/\(A5 m k v).length=m.length|none=>lU m c++[{key:=.string k,val:=.int .i64 v,born:=c+m.length}]=lU (A5 m k v) c/\(A5 m k v).length=m.length+1)|[],c,i=>by simp[zBj,A5,lU]|p::m,c,i=>by simp only[zBj,A5];cases hb:(k==p.1)with|true=>simp[lU]|false=>simp only[Bool.false_eq_true,if_false];have ih:=zFb k v m (c+1) (i+1);cases hm:zBj m k (i+1)with|none=>rw[hm]at ih;simp only at ih⊢;refine⟨?_,by simp[ih.2]⟩;simp only[lU,List.cons_append,List.length_cons];rw[<-ih.1,show c+(m.length+1)=c+1+m.length by omega]|some q=>obtain⟨j,u⟩:=q;rw[hm]at ih;simp only at ih⊢;refine⟨by omega,?_,by simp[ih.2.2]⟩;simp only[lU];rw[show j-i=(j-(i+1))+1 by omega,List.modify_succ_cons,ih.2.1]
variable{P:Program}{t kt et:TypeId}{ie:TypeInfo}
theorem yAl(ht:P.underlying t=some (.map kt et))(hk:P.underlying kt=some .string)(he:P.info? et=some ie)(hz:ie.zero=some (.int .i64 0))(m:List (ByteArray×Int))(k:ByteArray):Ob.ok P (.lk t (p7 m) (at' k) false (ai (nJ m k))):=by intro ev i s hl;unfold jX;simp only[ht,at',hk,he,p7]at hl⊢;simp only[hl,hz,iI,rE,cond_true,Bool.false_eq_true,if_false,zFc]
theorem yAk(ht:P.underlying t=some (.map kt et))(hk:P.underlying kt=some .string)(m:List (ByteArray×Int))(k:ByteArray)(v:Int):Ob.ok P (.mu t (p7 m) (at' k) (ai v) (p7 (A5 m k v))):=by intro ev i s hl;unfold rQ;simp only[ht,at',ai,hk,p7]at hl⊢;simp only[hl,iI,rE,cond_true];have h:=zFb k v m 0 0;cases hm:zBj m k 0 with|none=>rw[hm]at h;simp only[Nat.zero_add]at h⊢;rw[h.2,<-h.1];simp|some q=>
 obtain⟨j,u⟩:=q;rw[hm]at h;simp only[Nat.sub_zero]at h⊢;have e:(⟨lU m 0⟩:Array MapEntry).modify j (λe=>{e with key:=.string k,val:=.int .i64 v})=⟨lU (A5 m k v) 0⟩:=by apply Array.ext';rw[Array.toList_modify];exact h.2.1
 rw[h.2.2,e]
def nP(s:ByteArray)(i:Int):Option Int:=if 0<=i then(match s[i.toNat]? with|some b=>some (b.toNat:Int)|none=>none)else none
theorem zPy{k:IntKind}(ht:P.underlying t=some .string){s:ByteArray}{i x:Int}(h:nP s i=some x):kI P t (at' s) (.val (.int k i))=some (.val (.int .u8 x)):=by
 unfold nP at h;unfold kI;simp only[ht,at'];split at h
 ·rename_i h0;rw[if_pos h0];split at h
  ·rename_i b hb;cases h;rw[hb]
  ·cases h
 ·cases h
def zMk(s:ByteArray)(a b:Int):Option ByteArray:=if 0<=a/\a<=b/\b<=s.size then some (s.extract a.toNat b.toNat)else none
theorem zPx{k k':IntKind}(ht:P.underlying t=some .string){s r:ByteArray}{a b:Int}(h:zMk s a b=some r):wW P t (at' s) (some (.val (.int k a))) (some (.val (.int k' b))) none=some (at' r):=by
 unfold zMk at h;split at h;·rename_i hc;cases h;unfold wW;simp only[ht,at',xZ,M1];rw[if_pos ⟨by omega,hc.2.2⟩];simp only;rw[if_pos ⟨hc.1,by omega⟩]
 ·cases h
theorem zFa:∀l:List U8,aH (zH kT l)=some l|[]=>rfl|x::l=>by have:=zFa l;unfold zH at this⊢;rw[List.flatMap_cons];show(aH (l.flatMap kT)).map (x::·)=_;rw[this];rfl
theorem zPw{d e:TypeId}(hs:P.underlying t=some (.slice e))(hd:P.underlying d=some .string)(he:P.underlying e=some (.int .u8))(l:List U8){o:qT}:kU P t d (.sl (zH kT l) l.length o)=some (at' (tN l)):=by unfold kU;simp only[hs,hd,he,zFa];rfl
end Go.Ab
namespace Go.Ab
open Go Go.RowKit
structure Sub(G G':Gh)(p:Nat->Prop):Prop where
 F:G'.F=G.F
 ρ:∀i b,p i->G.ρ i=some b->G'.ρ i=some b
 τ:∀k q,G.τ k=some q->G'.τ k=some q
 L:∀b o,G.L b o->G'.L b o
 N:∀i,p i->G.N i->G'.N i
mutual theorem V.less{G G':Gh}{w:World}{p:Nat->Prop}(h:Sub G G' p):∀(a:AV)(u:Value),a.fine p->V G w a u->V G' w a u
 |.val v,u,_,hv=>by simpa only[V]using hv|.agg cs,u,hi,hv=>by simp only[V,AV.fine]at hi hv⊢;obtain⟨vs,rfl,hl⟩:=hv;exact⟨vs,rfl,VL.less h cs vs hi hl⟩|.tup cs,u,hi,hv=>by simp only[V,AV.fine]at hi hv⊢;obtain⟨vs,rfl,hl⟩:=hv;exact⟨vs,rfl,VL.less h cs vs hi hl⟩|.sl es n o,u,hi,hv=>by
  simp only[V,AV.fine]at hi hv⊢;obtain⟨cap,hc,hh⟩:=hv;refine⟨cap,hc,?_⟩;rcases hh with⟨rfl,h2,h3,h4,h5⟩|⟨b,off,hu,hcells,ho⟩;·exact .inl ⟨rfl,h2,h3,h4,h5.mono h.τ⟩
  ·exact .inr ⟨b,off,hu,VC.data h.L es b off hi hcells,ho.mono h.F h.τ⟩|.ip es,u,hi,hv=>by simp only[V,AV.fine]at hi hv⊢;obtain⟨b,off,hu,hcells⟩:=hv;exact⟨b,off,hu,VC.data h.L es b off hi hcells⟩|.mp i off,u,hi,hv=>by simp only[V,AV.fine]at hi hv⊢;obtain⟨b,hb,hu⟩:=hv;exact⟨b,h.ρ _ _ hi hb,hu⟩|.ms i off n c sz,u,hi,hv=>by
  simp only[V,AV.fine]at hi hv⊢;rcases hv with⟨b,cap,hb,hu⟩|⟨hn,hN,hu⟩;·exact .inl ⟨b,cap,h.ρ _ _ hi hb,hu⟩
  ·exact .inr ⟨hn,h.N _ hi hN,hu⟩|.obj i,u,hi,hv=>by simp only[V,AV.fine]at hi hv⊢;obtain⟨b,hb,hu⟩:=hv;exact⟨b,h.ρ _ _ hi hb,hu⟩|.clo g fs cs,u,hi,hv=>by simp only[V,AV.fine]at hi hv⊢;obtain⟨l,r',hu,h1,h2⟩:=hv;exact⟨l,r',hu,VL.less h fs l hi.1 h1,VL.less h cs r' hi.2 h2⟩theorem VL.less{G G':Gh}{w:World}{p:Nat->Prop}(h:Sub G G' p):∀(as0:List AV)(us:List Value),AV.fineL p as0->VL G w as0 us->VL G' w as0 us|[],[],_,_=>by simp only[VL]|a::as0,u::us,hi,hv=>by simp only[VL,AV.fineL]at hi hv⊢;exact⟨V.less h a u hi.1 hv.1,VL.less h as0 us hi.2 hv.2⟩|[],_::_,_,hv=>by simp only[VL]at hv|_::_,[],_,hv=>by simp only[VL]at hv end
mutual def AV.fz(m:Nat)(cs:List AV):AV->AV|.val v=>.val v|.agg l=>.agg (AV.fzL m cs l)|.tup l=>.tup (AV.fzL m cs l)|.sl es n o=>.sl es n o|.ip es=>.ip es|.mp i off=>.mp i off|.ms i off n c sz=>bif Nat.beq i m then .sl (cs.drop off) n .no else .ms i off n c sz|.obj i=>.obj i|.clo g a b=>.clo g a b def AV.fzL(m:Nat)(cs:List AV):List AV->List AV|[]=>[]|a::l=>AV.fz m cs a::AV.fzL m cs l end
mutual def AV.fzOk(m:Nat):AV->Prop|.val _=>True|.agg l=>AV.fzOkL m l|.tup l=>AV.fzOkL m l|.sl es _ _=>AV.DataL es|.ip es=>AV.DataL es|.mp i _=>i<m|.ms i off _ _ _=>(i=m/\off=0)\/i<m|.obj i=>i<m|.clo _ a b=>AV.fineL (λi=>i<m) a/\AV.fineL (λi=>i<m) b def AV.fzOkL(m:Nat):List AV->Prop|[]=>True|a::l=>AV.fzOk m a/\AV.fzOkL m l end
theorem p8:∀(l:List AV)(n:Nat),AV.DataL l->AV.DataL (l.drop n)|l,0,h=>by simpa using h|[],_+1,_=>trivial|_::l,n+1,h=>by simpa using p8 l n h.2
mutual theorem AV.fz_fine{m:Nat}{cs:List AV}(hc:AV.DataL cs):∀a:AV,a.fzOk m->(a.fz m cs).fine (λi=>i<m)
 |.val _,_=>trivial|.agg l,h=>AV.fzL_fine hc l h|.tup l,h=>AV.fzL_fine hc l h|.sl _ _ _,h=>h|.ip _,h=>h|.mp _ _,h=>h|.ms i off n c sz,h=>by simp only[AV.fz];cases hb:Nat.beq i m with|true=>exact p8 _ _ hc|false=>
  rcases h with⟨rfl,_⟩|h;·simp at hb
  ·exact h|.obj _,h=>h|.clo _ _ _,h=>h theorem AV.fzL_fine{m:Nat}{cs:List AV}(hc:AV.DataL cs):∀l:List AV,AV.fzOkL m l->AV.fineL (λi=>i<m) (AV.fzL m cs l)|[],_=>trivial|a::l,h=>⟨AV.fz_fine hc a h.1,AV.fzL_fine hc l h.2⟩end
mutual theorem V.fz{G G':Gh}{w:World}{m:Nat}{cs:List AV}(h:Sub G G' (λi=>i<m))(hm:∀b,G.ρ m=some b->VC G' w cs b 0)(hc:G.N m->cs=[]):∀(a:AV)(u:Value),a.fzOk m->V G w a u->V G' w (a.fz m cs) u
 |.val v,u,_,hv=>by simpa only[AV.fz,V]using hv|.agg l,u,hi,hv=>by simp only[V,AV.fzOk,AV.fz]at hi hv⊢;obtain⟨vs,rfl,hl⟩:=hv;exact⟨vs,rfl,VL.fz h hm hc l vs hi hl⟩|.tup l,u,hi,hv=>by simp only[V,AV.fzOk,AV.fz]at hi hv⊢;obtain⟨vs,rfl,hl⟩:=hv;exact⟨vs,rfl,VL.fz h hm hc l vs hi hl⟩|.sl es n o,u,hi,hv=>V.less h (.sl es n o) u hi hv|.ip es,u,hi,hv=>V.less h (.ip es) u hi hv|.mp i off,u,hi,hv=>V.less h (.mp i off) u hi hv|.ms i off n c sz,u,hi,hv=>by simp only[AV.fz];cases hb:Nat.beq i m with
  |false=>
   rcases hi with⟨rfl,_⟩|hi;·simp at hb
   ·exact V.less h (.ms i off n c sz) u hi hv|true=>
   have:=Nat.eq_of_beq_eq_true hb;subst this;simp only[V,cond_true]at hv⊢;rcases hi with⟨_,e0⟩|hi
   ·subst e0;rcases hv with⟨b,cap,hb',hn,o,rfl,hro⟩|⟨⟨e1,_⟩,hN,p,rfl⟩
    ·rcases hro with⟨eo,_⟩|⟨_,h0⟩
     ·subst eo;exact⟨cap,Nat.le_trans hn.1 hn.2,.inr ⟨b,_,rfl,by simpa using hm b hb',trivial⟩⟩
     ·exact absurd h0 (Nat.lt_irrefl _)
    ·rw[hc hN];subst e1;exact⟨0,Nat.le_refl 0,.inl ⟨rfl,(by first|rfl|trivial),(by first|rfl|trivial),rfl,trivial⟩⟩
   ·exact absurd hi (Nat.lt_irrefl _)
 |.obj i,u,hi,hv=>V.less h (.obj i) u hi hv|.clo g a b,u,hi,hv=>V.less h (.clo g a b) u hi hv theorem VL.fz{G G':Gh}{w:World}{m:Nat}{cs:List AV}(h:Sub G G' (λi=>i<m))(hm:∀b,G.ρ m=some b->VC G' w cs b 0)(hc:G.N m->cs=[]):∀(as0:List AV)(us:List Value),AV.fzOkL m as0->VL G w as0 us->VL G' w (AV.fzL m cs as0) us|[],[],_,_=>by simp only[AV.fzL,VL]|a::as0,u::us,hi,hv=>by simp only[VL,AV.fzOkL,AV.fzL]at hi hv⊢;exact⟨V.fz h hm hc a u hi.1 hv.1,VL.fz h hm hc as0 us hi.2 hv.2⟩|[],_::_,_,hv=>by simp only[VL]at hv|_::_,[],_,hv=>by simp only[VL]at hv end
def zFA(m:Nat):List (Nat×yK)->List (Nat×yK)|[]=>[]|p::l=>bif Nat.blt p.1 m then p::zFA m l else zFA m l
theorem dM{m:Nat}:∀(l:List (Nat×yK))(i:Nat),look (zFA m l) i=if i<m then look l i else none|[],i=>by simp[zFA,look]|p::l,i=>by simp only[zFA];cases hb:Nat.blt p.1 m with
 |true=>have hb':p.1<m:=Nat.le_of_ble_eq_true hb;simp only[cond_true,look,dM l i];cases he:Nat.beq i p.1 with|true=>have:=Nat.eq_of_beq_eq_true he;simp only[cond_true];rw[if_pos (by omega)]|false=>simp only[cond_false]
 |false=>
  have hb':¬p.1<m:=by intro h;rw[Nat.blt,Nat.ble_eq_true_of_le h]at hb;cases hb
  simp only[cond_false,look,dM l i];cases he:Nat.beq i p.1 with|true=>have:=Nat.eq_of_beq_eq_true he;rw[if_neg (by omega),if_neg (by omega)]|false=>simp only[cond_false]
def yK.alive:yK->Bool|.dead=>false|_=>true
theorem uH.freeze{P:Program}{f:FuncId}{H0 H1:List yK}{args cs:List AV}{res:AV}{nst:Nat}(h:uH P f H0 args res (H1++[.row cs]) nst)(hle:H0.length<=H1.length)(hH1:∀X∈H1,X.fine (λi=>i<H1.length))(hcs:AV.DataL cs)(hr:res.fzOk H1.length)(hnd:H1.all yK.alive=true):uH P f H0 args (res.fz H1.length cs) H1 nst:=by
 intro G0 W cargs hB hR hv;refine(h G0 W cargs hB hR hv).mono ?_;rintro e W'⟨u,G',s',rfl,hE,hR',hu,hb,ho⟩;have hm:look s'.H H1.length=some (.row cs):=hb H1.length _ (by simp);have hm':(yV (vA 0) s').H H1.length=some (.row cs):=by rw[xN];exact hm
 have real:∀b,G'.ρ H1.length=some b->¬G'.F b/\∃us:List Value,us.length=cs.length/\VL G' W' cs us/\∀i(hi:i<us.length),W'.cell? ⟨b,0+i,none⟩=some us[i]:=by
  intro b hρ;obtain⟨hF,vs,T,hh,us,rest,hus,hvl⟩:=hR'.blk H1.length b _ hρ hm';refine⟨hF,us,VL.length _ _ hvl,hvl,λi hi=>?_⟩;have:vs[i]?=some us[i]:=by
   have h1:vs.toList[i]?=some us[i]:=by rw[hus,List.getElem?_append_left hi,List.getElem?_eq_getElem hi]
   simpa using h1
  rw[Nat.zero_add];simp[World.cell?,hh,this]
 have hNn:G'.N H1.length->cs=[]:=λe=>yK.void_row (hR'.Nvoid e hm');let G'':Gh:={G' with ρ:=λi=>if i<H1.length then G'.ρ i else none,L:=λc o=>G'.L c o\/(G'.ρ H1.length=some c/\o<cs.length),N:=λi=>i<H1.length/\G'.N i};have hS:Sub G' G'' (λi=>i<H1.length):=⟨rfl,λi b hi e=>by show(if i<H1.length then G'.ρ i else none)=_;rw[if_pos hi];exact e,λ_ _ e=>e,λ_ _ e=>.inl e,λ_ hi e=>⟨hi,e⟩⟩;have hC:∀b,G'.ρ H1.length=some b->VC G'' W' cs b 0:=λb hρ=>by obtain⟨_,us,hlen,hvl,hcell⟩:=real b hρ;exact VC.of_cells cs us b 0 (VL.data hS.L cs us hcs hvl) (λi hi=>.inr ⟨hρ,by omega⟩) hcell
 have hσ:∀i,(yV (vA 0) {s' with H:=zFA H1.length s'.H}).H i=if i<H1.length then look s'.H i else none:=λi=>by rw[xN];exact dM _ _
 have hσ':∀i,(yV (vA 0) s').H i=look s'.H i:=λi=>xN _ _;refine⟨u,G'',{s' with H:=zFA H1.length s'.H},rfl,⟨λi c hc=>?_,hE.τ,λc o e=>.inl (hE.L c o e),hE.cell,hE.w0,hE.F,λc o e=>?_,hE.room,λi e=>?_⟩,⟨λi=>?_,⟨H1.length,λi hi=>?_⟩,λi j c hi hj=>?_,λi c X hi hX=>?_,λc o hL=>?_,hR'.τns,λk hk=>?_,hR'.ownd,hR'.below,hR'.base⟩,V.fz hS hC hNn _ _ hr hu,λi X hX=>?_,ho⟩
 ·have hi:i<H0.length:=Nat.lt_of_not_le λhge=>by rw[(hB.ρ i hge).1]at hc;cases hc
  show(if i<H1.length then G'.ρ i else none)=_;rw[if_pos (by omega)];exact hE.ρ i c hc
 ·rcases e with e|⟨e,_⟩;·exact hE.newL c o e
  ·exact .inr (by rw[<-hE.F];exact(real c e).1)
 ·have hi:i<H0.length:=Nat.lt_of_not_le λhge=>(hB.ρ i hge).2 e;exact⟨by omega,hE.N i e⟩
 ·rw[hσ];show jW (if i<H1.length then G'.ρ i else none) (i<H1.length/\G'.N i) _;have hd:=hR'.dom i;rw[hσ']at hd;split;·rename_i hi;exact⟨λq=>(hd.1 q).imp (λr=>⟨hi,r⟩) id,λq=>⟨(hd.2.1 q).1,λr=>(hd.2.1 q).2 r.2⟩,λr=>hd.2.2 r.2⟩
  ·rename_i hi;exact⟨λ_=>.inr rfl,λ_=>⟨rfl,λr=>hi r.1⟩,λr=>absurd r.1 hi⟩
 ·rw[hσ,if_neg (by omega)]
 ·have hi':(if i<H1.length then G'.ρ i else none)=some c:=hi;have hj':(if j<H1.length then G'.ρ j else none)=some c:=hj;split at hi'
  ·split at hj'
   ·rename_i h1 h2;rw[hσ,hσ,if_pos h1,if_pos h2,<-hσ',<-hσ'];exact hR'.inj i j c hi' hj'
   ·cases hj'
  ·cases hi'
 ·have hi':(if i<H1.length then G'.ρ i else none)=some c:=hi;split at hi'
  ·rename_i hlt;rw[hσ,if_pos hlt]at hX;obtain⟨q1,q2⟩:=hR'.blk i c X hi' (by rw[hσ'];exact hX);refine⟨q1,?_⟩;have hget:(H1++[.row cs])[i]?=some H1[i]:=by rw[List.getElem?_append_left hlt,List.getElem?_eq_getElem hlt]
   have:=hb i _ hget;rw[this]at hX;cases hX;have hf:=hH1 _ (List.getElem_mem hlt);cases hY:H1[i]with|cells ds=>rw[hY]at q2 hf;obtain⟨vs',T',q3,q4⟩:=q2;exact⟨vs',T',q3,q4.imp λus=>VL.less hS _ us hf⟩|obj o=>rw[hY]at q2;exact q2|row ds=>rw[hY]at q2 hf;obtain⟨vs',T',q3,q4⟩:=q2;exact⟨vs',T',q3,q4.imp λus=>VL.data hS.L _ us hf⟩|dead=>rw[hY]at q2;exact q2
  ·cases hi'
 ·rcases hL with hL|⟨hρ,hlt⟩
  ·obtain⟨q1,q2⟩:=hR'.live c o hL;refine⟨q1,λi hi=>?_⟩;have hi':(if i<H1.length then G'.ρ i else none)=some c:=hi;split at hi';·exact q2 i hi'
   ·cases hi'
  ·obtain⟨_,us,hlen,hvl,hcell⟩:=real c hρ;refine⟨⟨us[o]'(by omega),?_⟩,λi hi=>?_⟩
   ·have:=hcell o (by omega);rwa[Nat.zero_add]at this
   ·have hi':(if i<H1.length then G'.ρ i else none)=some c:=hi;split at hi'
    ·rename_i hlt';have hi2:look s'.H i=some H1[i]:=hb i _ (by rw[List.getElem?_append_left hlt',List.getElem?_eq_getElem hlt']);rcases hR'.inj i H1.length c hi' hρ with this|this|this;·omega
     ·rw[hσ',hi2]at this;have h3:=List.all_eq_true.1 hnd _ (List.getElem_mem hlt');rw[Option.some.inj this]at h3;cases h3
     ·rw[hσ',hm]at this;cases this
    ·cases hi'
 ·obtain⟨c,f1,t,q1,q2|⟨q2,q3,q4,q5⟩⟩:=hR'.own k hk;·exact⟨c,f1,t,q1,.inl q2⟩
  ·refine⟨c,f1,t,q1,.inr ⟨q2,λi hi=>?_,λo h1 h2 hL=>?_,q5⟩⟩
   ·have hi':(if i<H1.length then G'.ρ i else none)=some c:=hi;split at hi';·exact q3 i hi'
    ·cases hi'
   ·rcases hL with hL|⟨hρ,_⟩;·exact q4 o h1 h2 hL
    ·exact q3 _ hρ
 ·have hlt:=(List.getElem?_eq_some_iff.1 hX).1;show look (zFA H1.length s'.H) i=some X;rw[dM,if_pos hlt];exact hb i X (by rw[List.getElem?_append_left hlt];exact hX)
theorem CT.freeze{P:Program}{f:FuncId}{H0 H1:List yK}{args cs:List AV}{res res':AV}{nst:Nat}(h:CT P f H0 args res (H1++[.row cs]) nst)(hle:H0.length<=H1.length)(hH1:∀X∈H1,X.fine (λi=>i<H1.length))(hcs:AV.DataL cs)(hr:res.fzOk H1.length)(hnd:H1.all yK.alive=true)(e:res.fz H1.length cs=res'):CT P f H0 args res' H1 nst:=by subst e;exact⟨h.tri.freeze hle hH1 hcs hr hnd,h.args,h.H0,AV.fz_fine hcs _ hr,hH1⟩
theorem zMj{G0 G':Gh}{W W':World}{s':yT}{u:Value}(sz:Nat)(hB:zBn (0:Nat) G0)(hE:wE G0 W G' W')(hR':yM G' (yV (vA 0) s') W')(hu:∃cap b o,(cap=0)/\(u=.slice (gS u) 0 0\/u=.slice (some ⟨b,o,none⟩) 0 cap)):∃u' G'' s'',Ending.returned u=.returned u'/\wE G0 W G'' W'/\yM G'' (yV (vA 0) s'') W'/\V G'' W' (.sl [] 0 (.st 0 sz)) u'/\(∀i X,([]:List yK)[i]?=some X->look s''.H i=some X)/\∀k,k<1->s''.own.any (Nat.beq k)=true:=by
 let G'':Gh:={G' with ρ:=λ_=>none,τ:=λk=>if k=0 then some (0,1,0)else none,N:=λ_=>False};refine⟨u,G'',{s' with H:=[],own:=[0],ns:=1},rfl,⟨λi c hc=>?_,λk r hk=>?_,hE.L,hE.cell,hE.w0,hE.F,hE.newL,λi c m hc=>?_,λi e=>absurd e (hB.ρ i (Nat.zero_le _)).2⟩,⟨λi=>?_,⟨0,λi _=>?_⟩,λi j c hi=>?_,λi c X hi=>?_,λc o hL=>?_,λk hk=>?_,λk hk=>?_,λk k' _ _ _ _ _ hk hk'=>?_,hR'.below,hR'.base⟩,?_,λi X hX=>?_,λk hk=>?_⟩;·rw[(hB.ρ i (Nat.zero_le _)).1]at hc;cases hc
 ·rw[hB.τ k]at hk;cases hk
 ·rw[(hB.ρ i (Nat.zero_le _)).1]at hc;cases hc
 ·rw[xN];exact⟨λ_=>.inr rfl,λ_=>⟨rfl,id⟩,λe=>e.elim⟩
 ·rw[xN];rfl
 ·cases hi
 ·cases hi
 ·exact⟨(hR'.live c o hL).1,λi hi=>by cases hi⟩
 ·have hk1:1<=k:=hk;show(if k=0 then some (0,1,0)else none)=none;rw[if_neg (by omega)]
 ·rw[tV]at hk;have e:k=0:=by simpa using hk
  subst e;exact⟨0,1,0,rfl,.inl (by decide)⟩
 ·rw[tV]at hk hk';have e:k=0:=by simpa using hk
  have e':k'=0:=by simpa using hk'
  intros;omega
 ·obtain⟨cap,b,o,rfl,hu|rfl⟩:=hu
  ·simp only[V];exact⟨0,Nat.le_refl 0,.inl ⟨(by trivial),(by trivial),(by trivial),hu,_,rfl⟩⟩
  ·simp only[V];exact⟨0,Nat.le_refl 0,.inl ⟨(by trivial),(by trivial),(by trivial),(by first|rfl|trivial),_,rfl⟩⟩
 ·cases hX
 ·have:k=0:=by omega
  subst this;rfl
theorem uH.freezeZ{P:Program}{f:FuncId}{args cs:List AV}{n c sz:Nat}(h:uH P f [] args (.ms 0 0 n c sz) [.row cs] 0)(hn0:n=0):uH P f [] args (.sl [] 0 (.st 0 sz)) [] 1:=by
 intro G0 W cargs hB hR hv;refine(h G0 W cargs hB hR hv).mono ?_;rintro e W'⟨u,G',s',rfl,hE,hR',hu,hb,-⟩;have hm:look s'.H 0=some (.row cs):=hb 0 _ (by simp);have hm':(yV (vA 0) s').H 0=some (.row cs):=by rw[xN];exact hm
 simp only[V]at hu;rcases hu with⟨b,cap,hρ,hn,o,rfl,hro⟩|⟨⟨e0,_⟩,hN,p,rfl⟩;rotate_left
 ·have hcs0:=yK.void_row (hR'.Nvoid hN hm');subst e0;try subst hcs0
  exact zMj sz hB hE hR' ⟨0,0,0,rfl,.inl rfl⟩
 obtain⟨hF,vs,T,hh,us,rest,hus,hvl⟩:=hR'.blk 0 b _ hρ hm';have hlen:=VL.length _ _ hvl;rcases hro with⟨rfl,vs2,T2,hh2,hroom⟩|⟨_,h0⟩;rotate_left;·exact absurd h0 (Nat.lt_irrefl _)
 rw[hh]at hh2;cases hh2;let G'':Gh:={G' with ρ:=λ_=>none,τ:=λk=>if k=0 then some (b,0+0,0+cap*sz)else none,N:=λ_=>False};refine⟨_,G'',{s' with H:=[],own:=[0],ns:=1},rfl,⟨λi c hc=>?_,λk r hk=>?_,hE.L,hE.cell,hE.w0,hE.F,hE.newL,λi c m hc=>?_,λi e=>absurd e (hB.ρ i (Nat.zero_le _)).2⟩,⟨λi=>?_,⟨0,λi _=>?_⟩,λi j c hi=>?_,λi c X hi=>?_,λc o hL=>?_,λk hk=>?_,λk hk=>?_,λk k' _ _ _ _ _ hk hk'=>?_,hR'.below,hR'.base⟩,?_,λi X hX=>?_,λk hk=>?_⟩;·rw[(hB.ρ i (Nat.zero_le _)).1]at hc;cases hc
 ·rw[hB.τ k]at hk;cases hk
 ·rw[(hB.ρ i (Nat.zero_le _)).1]at hc;cases hc
 ·rw[xN];exact⟨λ_=>.inr rfl,λ_=>⟨rfl,id⟩,λe=>e.elim⟩
 ·rw[xN];rfl
 ·cases hi
 ·cases hi
 ·exact⟨(hR'.live c o hL).1,λi hi=>by cases hi⟩
 ·have hk1:1<=k:=hk;show(if k=0 then some (b,0+0,0+cap*sz)else none)=none;rw[if_neg (by omega)]
 ·rw[tV]at hk;have e:k=0:=by simpa using hk
  subst e;exact⟨b,0+0,0+cap*sz,rfl,.inr ⟨hF,λi hi=>(by cases hi),λo h1 h2 hL=>(hR'.live b o hL).2 0 hρ,vs,T,hh,hroom⟩⟩
 ·rw[tV]at hk hk';have e:k=0:=by simpa using hk
  have e':k'=0:=by simpa using hk'
  intros;omega
 ·simp only[V];subst hn0;exact⟨cap,Nat.zero_le _,.inr ⟨b,0,rfl,by simp only[VC],⟨_,rfl⟩,.inr ⟨by simp,hF,rfl⟩⟩⟩
 ·cases hX
 ·have:k=0:=by omega
  subst this;rfl
theorem CT.freezeZ{P:Program}{f:FuncId}{args cs:List AV}{n c sz:Nat}(h:CT P f [] args (.ms 0 0 n c sz) [.row cs] 0)(hn0:n=0):CT P f [] args (.sl [] 0 (.st 0 sz)) [] 1:=⟨h.tri.freezeZ hn0,h.args,h.H0,trivial,λ_ h=>nomatch h⟩
def gmk{α:Type}(B:Int)(d:α)(n:Int):Option (List α):=if 0<=n/\n*B<=140737488355328 then some (List.replicate n.toNat d)else none
def fY(n:Nat)(i:Int):Option Nat:=if 0<=i/\i<n then some i.toNat else none
def E7{α:Type}(l:List α)(k:Nat)(x:α):Option (List α):=if k<l.length then some (l.set k x)else none
def gfz{α:Type}(n:Nat)(l:List α):Option (List α):=if l.length=n then some l else none
theorem p9{α:Type}{n:Nat}{l r:List α}(h:gfz n l=some r):r=l/\n=r.length:=by
 unfold gfz at h;split at h;·rename_i e;cases h;exact⟨rfl,e.symm⟩
 ·cases h
theorem zBU{f:Nat->AV}{s:Nat}(hs:0<s):∀n:Nat,(List.range (n*s)).map (λj=>f (j%s))=(List.replicate n ((List.range s).map f)).flatten|0=>by simp|n+1=>by rw[Nat.add_mul,Nat.one_mul,List.range_add,List.map_append,zBU hs n,List.replicate_succ',List.flatten_append];congr 1;simp only[List.map_map,List.flatten_cons,List.flatten_nil,List.append_nil];apply List.map_congr_left;intro j hj;have:j<s:=List.mem_range.1 hj;simp[Function.comp,Nat.add_comm (n*s) j,Nat.mod_eq_of_lt this]
theorem zFB{α:Type}{c:α->List AV}{d:α}:∀n:Nat,(List.replicate n (c d)).flatten=zH c (List.replicate n d)|0=>rfl|n+1=>by simp only[List.replicate_succ,List.flatten_cons,zH,List.flatMap_cons];rw[zFB n];rfl
theorem zPu{P:Program}{α:Type}{c:α->List AV}{sz:Nat}{t e:TypeId}{ie:TypeInfo}{z:Value}(ht:P.underlying t=some (.slice e))(hi:P.info? e=some ie)(hs:ie.size=sz)(hz:ie.zero=some z)(hzs:z.cells.size=sz)(h1:1<=sz){B:Nat}(hb:ie.bytes=B)(hB:1<=B){d:α}(hd:(List.range sz).map (λj=>(ofV 8 (z.cells.getD j undef)).frz)=c d){n:Int}{l:List α}(h:gmk (B:Int) d n=some l):Ob.ok P (.mk (qW P t (ai n) (ai n)) (zH c l) l.length):=by
 unfold gmk at h;split at h
 ·rename_i hc;cases h;show qW P t (ai n) (ai n)=some (zH c (List.replicate n.toNat d),(List.replicate n.toNat d).length);unfold qW;simp only[ht,hi,hz];have hb':(B:Int)>=1:=by omega
  have hn:n<=n*B:=by have:=Int.mul_le_mul_of_nonneg_left hb' hc.1;simpa using this
  rw[if_pos ⟨trivial,hc.1,by rw[hb];exact hc.2,by omega,by rw[hzs,hs],by rw[hs];exact h1⟩];simp only[List.length_replicate,Option.some.injEq,Prod.mk.injEq,and_true];rw[hs,hzs,zBU h1 (f:=λj=>(ofV 8 (z.cells.getD j undef)).frz),hd,zFB]
 ·cases h
theorem zIE{P:Program}{t e:TypeId}{ie:TypeInfo}(ht:P.underlying t=some (.slice e))(hi:P.info? e=some ie){sz:Nat}(hs:ie.size=sz){b n k c z:Nat}{i:Int}(h:fY n i=some k):xK P t (.ms b 0 n c z) (ai i)=some (.mp b (k*sz)):=by
 unfold fY at h;split at h
 ·rename_i hc;cases h;unfold xK;simp only[ht,hi];rw[if_pos hc,hs,Nat.zero_add]
 ·cases h
theorem zSP{α:Type}{c:α->List AV}{sz:Nat}(hc:vB c sz){l:List α}{k:Nat}{x:α}(h:zL l (k:Int)=some x):(zH c l).drop (k*sz)=c x++zH c (l.drop (k+1)):=by obtain⟨_,_,h2⟩:=jC h;exact zDE hc.len (by simpa using h2)
theorem zFC{α:Type}{c:α->List AV}{sz:Nat}(hc:∀x,(c x).length=sz):∀(l:List α)(k:Nat)(x:α),k<l.length->splice (zH c l) (k*sz) (c x)=zH c (l.set k x)
 |[],k,x,h=>by simp at h|y::l,0,x,h=>by simp only[splice,Nat.zero_mul,List.take_zero,List.nil_append,Nat.zero_add,zH,List.flatMap_cons,List.set_cons_zero];rw[List.drop_left' (by rw[hc,hc])]|y::l,k+1,x,h=>by
  have ih:=zFC hc l k x (by simpa using h);simp only[splice,zH]at ih;simp only[splice,zH,List.flatMap_cons,List.set_cons_succ];rw[<-ih];have e:(k+1)*sz=sz+k*sz:=by rw[Nat.add_mul,Nat.one_mul,Nat.add_comm]
  rw[e,List.take_append,List.take_of_length_le (by rw[hc];omega),hc,Nat.add_sub_cancel_left,show sz+k*sz+(c x).length=sz+(k*sz+(c x).length)by omega,<-List.drop_drop,List.drop_left' (hc y)];simp only[List.append_assoc]
theorem zKa{P:Program}{α:Type}{c:α->List AV}{sz:Nat}(hc:vB c sz){l l2:List α}{k:Nat}{x:α}(h:E7 l k x=some l2):Ob.ok P (.wt (zH c l) (k*sz) (.agg (c x)) sz (zH c l2)):=by
 unfold E7 at h;split at h;·rename_i hk;cases h;refine⟨hc.one x,hc.len x,?_,zFC hc.len l k x hk⟩;rw[uO hc.len];have:=Nat.mul_le_mul_right sz (show k+1<=l.length from hk);rw[Nat.add_mul,Nat.one_mul]at this;exact this
 ·cases h
theorem zPt{P:Program}{α:Type}{c:α->List AV}{a:α->AV}(hc:vB c 1)(ha:∀x,c x=[a x])(hs:∀x,(a x).sound=true/\sU (a x)=[a x]){l l2:List α}{k:Nat}{x:α}(h:E7 l k x=some l2):Ob.ok P (.wt (zH c l) (k*1) (a x) 1 (zH c l2)):=by obtain⟨_,h2,h3,h4⟩:=zKa (P:=P) hc h;refine⟨(hs x).1,by rw[(hs x).2];rfl,h3,?_⟩;rw[(hs x).2];have h4':splice (zH c l) (k*1) (c x)=zH c l2:=h4;rw[ha]at h4';exact h4'
theorem S0{P:Program}{α:Type}{c:α->List AV}{sz:Nat}(hc:vB c sz){t e:TypeId}{ie:TypeInfo}(ht:P.underlying t=some (.slice e))(hi:P.info? e=some ie)(hs:ie.size=sz){l r:List α}{b:Int}{k k':IntKind}{o:qT}(h:uL l 0 b=some r):wW P t (.sl (zH c l) l.length o) none (some (.val (.int k b))) (some (.val (.int k' b)))=some (.sl (zH c r) r.length .full):=by
 obtain⟨_,h1,h2,rfl⟩:=t6 h;subst hs;have key:wW P t (.sl (zH c l) l.length o) none (some (.val (.int k b))) (some (.val (.int k' b)))=some (.sl (zH c (l.take b.toNat)) (l.take b.toNat).length (o.cut 0 b.toNat (Nat.beq b.toNat l.length) (Nat.beq b.toNat b.toNat))):=by
  unfold wW;simp only[ht,hi,amx,M1,xZ];rw[if_pos ⟨h1,h2⟩];simp only[Option.map_some];have hbb:(0<=b/\b<=(b.toNat:Nat)):=⟨h1,by omega⟩;rw[if_pos hbb];simp only[Option.isSome_some,Option.isNone_some,Bool.false_eq_true,and_false,if_false];rw[if_pos (by rw[uO hc.len];simp)];simp only[Nat.sub_zero,Nat.zero_mul,List.drop_zero,Bool.true_and];rw[dK hc.len];have hl:(l.take b.toNat).length=b.toNat:=by simp;omega
  rw[hl]
 rw[key];simp only[qT.cut,Nat.beq_refl,if_true,Int.sub_zero,Int.toNat_zero,List.drop_zero]
def zMi(n:Nat)(a b:Int):Option (Nat×Nat):=if 0<=a/\a<=b/\b<=n then some (a.toNat,(b-a).toNat)else none
theorem zMh{n:Nat}{a b:Int}{r:Nat×Nat}(h:zMi n a b=some r):0<=a/\a<=b/\b<=n/\r.1=a.toNat/\r.2=b.toNat-a.toNat:=by
 unfold zMi at h;split at h
 ·rename_i q;cases h;exact⟨q.1,q.2.1,q.2.2,rfl,by show(b-a).toNat=_;omega⟩
 ·cases h
theorem zPs{P:Program}{t e:TypeId}{ie:TypeInfo}(ht:P.underlying t=some (.slice e))(hi:P.info? e=some ie){sz:Nat}(hs:ie.size=sz)(h1:1<=sz){b off n c:Nat}{y:Int}{r:Nat×Nat}(h:zMi c 0 y=some r):wW P t (.ms b off n c sz) none (some (ai y)) none=some (.ms b off r.2 c sz):=by
 obtain⟨q1,q2,q3,q4,q5⟩:=zMh h;subst hs;have h2:xZ c c (some (ai y))=some y.toNat:=by show(if 0<=y/\y<=(c:Int)then some y.toNat else none)=_;rw[if_pos ⟨by omega,q3⟩]
 unfold wW;simp only[ht,hi,amx,show msb n c (some (ai y)) none=c from rfl,h2];rw[if_neg (by simp)];simp only[xZ];rw[if_pos ⟨trivial,h1⟩,q5];simp
theorem ldE{P:Program}{α:Type}{c:α->List AV}{sz:Nat}(hc:vB c sz){l:List α}{k:Nat}{x:α}(h:zL l (k:Int)=some x)(q:Bool×Nat){val:AV}(e:oN q (c x++zH c (l.drop (k+1)))=some val):Ob.ok P (.ld (oN q ((zH c l).drop (k*sz))) val):=by show oN q _=some val;rw[zSP hc h,e]
theorem wtE{P:Program}{α:Type}{c:α->List AV}{sz:Nat}(hc:vB c sz){l l2:List α}{k:Nat}{x:α}{cs:List AV}(he:c x=cs)(h:E7 l k x=some l2):Ob.ok P (.wt (zH c l) (k*sz) (.agg cs) sz (zH c l2)):=he▸zKa hc h
theorem zBV{P:Program}{α:Type}{c:α->List AV}{sz:Nat}(hc:vB c sz){t e:TypeId}{ie:TypeInfo}{z:Value}(ht:P.underlying t=some (.slice e))(hi:P.info? e=some ie)(hs:ie.size=sz)(hz:ie.zero=some z)(hzs:z.cells.size=sz)(h1:1<=sz){B:Nat}(hb:ie.bytes=B)(hB:1<=B){l m r:List α}(h:yR B l m=some r)(hm:m.length≠0)(z1:Option Nat)(hz1:∀q,z1=some q->q=sz)(src:Option (Nat×Nat×Nat))(hsrc:∀q,src=some q->q.2.2=sz):Z8 P t t z1 (zH c l) l.length src (zH c m) m.length=some (zH c r,r.length):=by obtain⟨h2,rfl⟩:=qF h;subst hs;subst hb;have h3:(l.length+m.length)*1<=(l.length+m.length)*ie.bytes:=Nat.mul_le_mul_left _ hB;unfold Z8;simp only[ht,hi,hz];rw[if_pos ⟨trivial,uO hc.len l,uO hc.len m,h1,hzs,h2,by omega,u6 hc.one m,hm,hz1,hsrc⟩,u7,List.length_append]
theorem zPr{P:Program}{α:Type}{c:α->List AV}{sz:Nat}(hc:vB c sz){t e:TypeId}{ie:TypeInfo}{z:Value}(ht:P.underlying t=some (.slice e))(hi:P.info? e=some ie)(hs:ie.size=sz)(hz:ie.zero=some z)(hzs:z.cells.size=sz)(h1:1<=sz){B:Nat}(hb:ie.bytes=B)(hB:1<=B){m r:List α}(h:yR B ([]:List α) m=some r)(hm:m.length≠0):Ob.ok P (.mk (Z8 P t t none [] 0 none (zH c m) m.length) (zH c r) r.length):=zBV hc ht hi hs hz hzs h1 hb hB h hm none (λ_ h=>nomatch h) none (λ_ h=>nomatch h)
theorem zPq{P:Program}{α:Type}{c:α->List AV}{sz:Nat}(hc:vB c sz){t e:TypeId}{ie:TypeInfo}{z:Value}(ht:P.underlying t=some (.slice e))(hi:P.info? e=some ie)(hs:ie.size=sz)(hz:ie.zero=some z)(hzs:z.cells.size=sz)(h1:1<=sz){B:Nat}(hb:ie.bytes=B)(hB:1<=B){l m r:List α}(h:yR B l m=some r)(hm:m.length≠0):Ob.ok P (.mk (Z8 P t t (some sz) (zH c l) l.length none (zH c m) m.length) (zH c r) r.length):=zBV hc ht hi hs hz hzs h1 hb hB h hm _ (λ_ h=>(Option.some.inj h).symm) none (λ_ h=>nomatch h)
theorem zSQ{P:Program}{t e:TypeId}{ie:TypeInfo}(ht:P.underlying t=some (.slice e))(hi:P.info? e=some ie){n:Nat}(h:n=0):Ob.ok P (.same t t n):=⟨rfl,h,e,ie,ht,hi⟩
abbrev zC{α:Type}(c:α->List AV)(l:List α)(o:qT):AV:=.sl (zH c l) l.length o
abbrev qG(n:Nat):List nS:=List.replicate n .no
structure OL(P:Program)(os:List nS)(ob:List Ob):Prop where ok:yU P ob
theorem yU.rev{P:Program}:∀(a b:List Ob),yU P a->yU P b->yU P (a.reverseAux b)|[],_,_,k=>k|x::a,b,h,k=>yU.rev a (x::b) h.2 ⟨h.1,k⟩
section
variable{P:Program}{os:List nS}{ob:List Ob}
theorem OL.nil:OL P [] []:=⟨trivial⟩
theorem oB{b b':Bool}(n:Nat)(h:b=b')(k:OL P os ob):OL P (.bit b'::(qG n++os)) (.bit b b'::ob):=⟨⟨h,k.ok⟩⟩
theorem oA{x:Option AV}{a:AV}(n:Nat)(h:x=some a)(k:OL P os ob):OL P (.av a::(qG n++os)) (.av x a::ob):=⟨⟨h,k.ok⟩⟩
theorem oC{f:FuncId}{H0:List yK}{args:List AV}{res:AV}{H1:List yK}{nst:Nat}(n:Nat)(ι:List Nat)(h:CT P f H0 args res H1 nst)(k:OL P os ob):OL P (.call ι H1 nst res none::(qG n++os)) (.call f H0 args res H1 nst::ob):=⟨⟨h,k.ok⟩⟩
theorem oK{b b':Bool}{f:FuncId}{H0:List yK}{args:List AV}{res:AV}{H1:List yK}{nst:Nat}(n:Nat)(ι:List Nat)(hb:b=b')(h:CT P f H0 args res H1 nst)(k:OL P os ob):OL P (.call ι H1 nst res (some b')::(qG n++os)) (.call f H0 args res H1 nst::.bit b b'::ob):=⟨⟨h,hb,k.ok⟩⟩
theorem oF{x:Option AV}{a:AV}(n:Nat)(h:∃a0,x=some a0/\a0.frz=a)(k:OL P os ob):OL P (.fz a::(qG n++os)) (.fz x a::ob):=⟨⟨h,k.ok⟩⟩
theorem oP{t t2:TypeId}{es es2 es':List AV}{n1 n2 n' sz:Nat}{e:Bool}(n:Nat)(h:Ob.ok P (.app t t2 es es2 es' n1 n2 n' sz e))(k:OL P os ob):OL P (.app es' n' sz e::(qG n++os)) (.app t t2 es es2 es' n1 n2 n' sz e::ob):=⟨⟨h,k.ok⟩⟩
theorem oS{cs es:List AV}{l m:Nat}(n:Nat)(h:Ob.ok P (.cells cs es l m))(k:OL P os ob):OL P (.sl es m::(qG n++os)) (.cells cs es l m::ob):=⟨⟨h,k.ok⟩⟩
theorem oL{t:TypeId}{X:yK}{key:AV}{o:Bool}{a:AV}(n:Nat)(h:Ob.ok P (.lk t X key o a))(k:OL P os ob):OL P (.lk a::(qG n++os)) (.lk t X key o a::ob):=⟨⟨h,k.ok⟩⟩
theorem oU{t:TypeId}{X Y:yK}{key v:AV}(n:Nat)(h:Ob.ok P (.mu t X key v Y))(k:OL P os ob):OL P (.mu Y::(qG n++os)) (.mu t X key v Y::ob):=⟨⟨h,k.ok⟩⟩
theorem oM{x:Option (List AV×Nat)}{cs:List AV}{m:Nat}(n:Nat)(h:Ob.ok P (.mk x cs m))(k:OL P os ob):OL P (.mk cs m::(qG n++os)) (.mk x cs m::ob):=⟨⟨h,k.ok⟩⟩
theorem oG{x:Option AV}{a:AV}(n:Nat)(h:Ob.ok P (.ld x a))(k:OL P os ob):OL P (.ld a::(qG n++os)) (.ld x a::ob):=⟨⟨h,k.ok⟩⟩
theorem oW{cs:List AV}{off:Nat}{v:AV}{sz:Nat}{cs':List AV}(n:Nat)(h:Ob.ok P (.wt cs off v sz cs'))(k:OL P os ob):OL P (.wt cs'::(qG n++os)) (.wt cs off v sz cs'::ob):=⟨⟨h,k.ok⟩⟩
theorem oQ{t t2:TypeId}{m:Nat}(n:Nat)(h:Ob.ok P (.same t t2 m))(k:OL P os ob):OL P (.same::(qG n++os)) (.same t t2 m::ob):=⟨⟨h,k.ok⟩⟩
theorem oD{es:List AV}(h:AV.DataL es)(k:OL P os ob):OL P os (.data es::ob):=⟨⟨h,k.ok⟩⟩
end
theorem spl{α:Type}{b:Bool}{x y:Option α}{r:α}(h:(if b=true then x else y)=some r):(b=true/\x=some r)\/(b=false/\y=some r):=by
 cases b;·exact .inr ⟨rfl,by simpa using h⟩
 ·exact .inl ⟨rfl,by simpa using h⟩
theorem spT{α:Type}{b:Bool}{x:Option α}{r:α}(h:(if b=true then x else none)=some r):b=true/\x=some r:=by
 rcases spl h with h|⟨_,h⟩;·exact h
 ·cases h
theorem nn{α:Type}{r:α}{p:Prop}(h:(none:Option α)=some r):p:=nomatch h
theorem zXF{α:Type}{b:Bool}{x y:α}(h:b=true):(if b=true then x else y)=x:=if_pos h
theorem zSS{α:Type}{b:Bool}{x y:α}(h:b=false):(if b=true then x else y)=y:=by subst h;rfl
theorem sj{α:Type}{x y:α}(h:some x=some y):x=y:=Option.some.inj h
def sp(j:Nat->Value):Nat->Nat->List (Nat×AV)->List AV|0,_,_=>[]|n+1,i,l=>match l with|[]=>.val (j i)::sp j n (i+1) []|(m,a)::l'=>bif Nat.beq m i then a::sp j n (i+1) l' else .val (j i)::sp j n (i+1) l
section
variable{P:Program}{pr:FuncId->List AV->yT->Option LA}(hp:sQ P pr)(hm:P.follows .mixedOrders=true){na:Nb}{fn:Func}{f:FuncId}
include hp hm
theorem OL.toHead{H0 H1:List yK}{args:List AV}{res:AV}{nst:Nat}(q:P.funcs[f]?=some fn/\fn.body.isNone=false)(m:Nat)(rs:List (Option Nat×Nat×Nat))(keep ks live:List Nat){os:List nS}{ob:List Ob}(k:OL P os ob){c:Code}{fs':List Fr}{E:(Nat->Value)->List AV}{S:yT}(hk:∀j,Dl P H0.length c (E j) S (wS P H0.length (aA P H0.length fn res H1 nst) fs'))(h:∀j,D7 P pr H0.length 3000 (.run (sV fn)) [] (args++List.replicate (fn.ntmps-args.length) (.val undef)) (V1 H0) ((qG m++os).reverseAux []) rs keep ks live j=some (c,fs',E j,S,ob.reverseAux [])):uH P f H0 args res H1 nst:=uH.toHead hp hm q.1 q.2 3000 _ rs keep ks live h (yU.rev _ _ k.ok trivial) hk
theorem OL.toFin{H0 H1:List yK}{args:List AV}{res:AV}{nst:Nat}(q:P.funcs[f]?=some fn/\fn.body.isNone=false)(m:Nat)(rs:List (Option Nat×Nat×Nat))(keep ks:List Nat)(own:Bool){os:List nS}{ob:List Ob}(k:OL P os ob)(h:zBk P pr H0.length fn 3000 (.run (sV fn)) [] (args++List.replicate (fn.ntmps-args.length) (.val undef)) (V1 H0) ((qG m++os).reverseAux []) rs keep ks own=some (res,H1,ob.reverseAux []))(hn:nst<=ks.length):uH P f H0 args res H1 nst:=uH.toFin hp hm q.1 q.2 3000 _ rs keep ks own h (yU.rev _ _ k.ok trivial) hn
theorem OL.lHead{Q:AX->List AV->yT->Prop}{c c':Code}{fs fs':List Fr}{env:List AV}{s S:yT}(m:Nat)(rs:List (Option Nat×Nat×Nat))(keep ks live:List Nat){os:List nS}{ob:List Ob}(k:OL P os ob){E:(Nat->Value)->List AV}(hk:∀j,Dl P na c' (E j) S (wS P na Q fs'))(h:∀j,D7 P pr na.n 3000 (.run c) (.loop c::fs) env s ((qG m++os).reverseAux []) rs keep ks live j=some (c',fs',E j,S,ob.reverseAux [])):Dl P na c env s (wS P na Q fs):=Dl.toHead hp hm 3000 _ rs keep ks live h (yU.rev _ _ k.ok trivial) hk
theorem OL.lFin{c:Code}{fs:List Fr}{env:List AV}{s:yT}{res:AV}{H1:List yK}{nst:Nat}(m:Nat)(rs:List (Option Nat×Nat×Nat))(keep ks:List Nat)(own:Bool){os:List nS}{ob:List Ob}(k:OL P os ob)(h:zBk P pr na.n fn 3000 (.run c) (.loop c::fs) env s ((qG m++os).reverseAux []) rs keep ks own=some (res,H1,ob.reverseAux []))(hn:nst<=ks.length):Dl P na c env s (wS P na (aA P na fn res H1 nst) fs):=Dl.toFin hp hm 3000 _ rs keep ks own h (yU.rev _ _ k.ok trivial) hn
end
def gbs(s:ByteArray):List U8:=s.data.toList.map λb=>(b.toNat:Int)
theorem iJ(s:ByteArray):(gbs s).length=s.size:=by unfold gbs;rw[List.length_map,Array.length_toList];rfl
theorem zIF(s:ByteArray):vH s=zH kT (gbs s):=by unfold vH gbs;generalize s.data.toList=l;induction l with|nil=>rfl|cons b l ih=>unfold zH at ih⊢;rw[List.map_cons,List.map_cons,List.flatMap_cons,ih];rfl
def zST(a b:Int):Option Int:=if b<0 then none else some (a.fdiv (2^(min b.toNat IntKind.i64.bits)))
theorem zXG{P:Program}{t:TypeId}{a b r:Int}(h:zST a b=some r):Z4 P .shr t (ai a) (ai b)=some (ai r):=by
 unfold zST at h;split at h;·cases h
 ·rename_i hc;cases h;unfold Z4 W8 zXm;simp only[ai,if_neg hc,if_true]
section
variable{P:Program}{t t2 e:TypeId}{ie:TypeInfo}{z:Value}
theorem zFD(ht:P.underlying t=some (.slice e))(hu:P.underlying t2=some .string)(hi:P.info? e=some ie)(hs:ie.size=1)(hz:ie.zero=some z)(hzs:z.cells.size=1)(hb:ie.bytes=1){l r:List U8}{bs:ByteArray}(h:yR 1 l (gbs bs)=some r){o:qT}{s:yT}{ev:Operand->AV}:qV P t t2 ev (.sl (zH kT l) l.length o) bs s=bif Nat.beq bs.size 0 then some {ev:=ev,v:=.sl (zH kT l) l.length o}else match o with|.full=>some {ev:=ev,ns:=s.ns,new:=1,v:=.sl (zH kT r) r.length (.st s.ns 1)}|.nl=>some {ev:=ev,ns:=s.ns,new:=1,v:=.sl (zH kT r) r.length (.st s.ns 1)}|.st k sz'=>bif s.own.any (Nat.beq k)&&Nat.beq sz' 1 then some {ev:=ev,use:=[k],ns:=s.ns,new:=1,v:=.sl (zH kT r) r.length (.st s.ns 1)}else none|_=>none:=by
 obtain⟨h2,rfl⟩:=qF h;rw[iJ]at h2;unfold qV;simp only[ht,hu,hi,hz,hs,hb];have hcond:(Nat.beq (zH kT l).length (l.length*1)&&Nat.beq 1 1&&Nat.beq z.cells.size 1&&Nat.ble ((l.length+bs.size)*1) 140737488355328&&Nat.ble (l.length+bs.size) 4611686018427387904)=true:=by simp only[Bool.and_eq_true];exact⟨⟨⟨⟨by rw[uO A0.len];simp,rfl⟩,by rw[hzs];rfl⟩,by simpa using h2⟩,by simp;omega⟩
 rw[hcond];simp only[cond_true,u7,List.length_append,iJ,zIF];cases o<;>rfl
theorem zPp(ht:P.underlying t=some (.slice e))(hu:P.underlying t2=some .string)(hi:P.info? e=some ie)(hs:ie.size=1)(hz:ie.zero=some z)(hzs:z.cells.size=1)(hb:ie.bytes=1){l r:List U8}{bs:ByteArray}(h:yR 1 l (gbs bs)=some r)(hm:bs.size≠0):Ob.ok P (.aps t t2 (zH kT l) bs (zH kT r) l.length r.length 1 false):=by intro ev s o;rw[zFD ht hu hi hs hz hzs hb h];cases hn:Nat.beq bs.size 0 with|true=>exact absurd (Nat.eq_of_beq_eq_true hn) hm|false=>cases o<;>rfl
theorem zPo(ht:P.underlying t=some (.slice e))(hu:P.underlying t2=some .string)(hi:P.info? e=some ie)(hs:ie.size=1)(hz:ie.zero=some z)(hzs:z.cells.size=1)(hb:ie.bytes=1){l r:List U8}{bs:ByteArray}(h:yR 1 l (gbs bs)=some r)(hm:bs.size=0):Ob.ok P (.aps t t2 (zH kT l) bs (zH kT r) l.length r.length 1 true):=by intro ev s o;rw[zFD ht hu hi hs hz hzs hb h];obtain⟨_,rfl⟩:=qF h;have:gbs bs=[]:=List.length_eq_zero_iff.1 (by rw[iJ,hm]);rw[hm,this,List.append_nil];rfl
end
section
variable{P:Program}{os:List nS}{ob:List Ob}
theorem zSU{s:ByteArray}{p:Nat}(h:p<s.size):Ob.ok P (.nx (.obj (.stringIter s p)) (.tup [ab true,ai (p:Int),.val (.int .i32 ((Utf8.decode s p).1:Nat))]) (some (.obj (.stringIter s (p+(Utf8.decode s p).2))))):=by intro ev i st hl;unfold R3;have hb:Nat.blt p s.size=true:=Nat.ble_eq_true_of_le h;simp only[hl,hb,cond_true];rfl
theorem zSV{s:ByteArray}{p:Nat}(h:¬p<s.size):Ob.ok P (.nx (.obj (.stringIter s p)) (.tup [ab false]) none):=by
 intro ev i st hl;unfold R3;have hb:Nat.blt p s.size=false:=by cases hc:Nat.blt p s.size with|false=>rfl|true=>exact absurd (Nat.le_of_ble_eq_true hc) h
 simp only[hl,hb,cond_false];rfl
theorem oMz{x:Option (List AV×Nat)}{cs:List AV}{m:Nat}(n:Nat)(h:Ob.ok P (.mk x cs m))(k:OL P os ob):OL P (.mz cs m::(qG n++os)) (.mk x cs m::ob):=⟨⟨h,k.ok⟩⟩
theorem oCx{f:FuncId}{H0:List yK}{args:List AV}{res:AV}{H1:List yK}{nst:Nat}(n:Nat)(ι:List Nat)(h:CT P f H0 args res H1 nst)(k:OL P os ob):OL P (.callx ι H1 nst res none::(qG n++os)) (.call f H0 args res H1 nst::ob):=⟨⟨h,k.ok⟩⟩
theorem gR(n:Nat)(k:OL P os ob):OL P (.cl::(qG n++os)) ob:=⟨k.ok⟩
theorem oCv{x:Option ByteArray}{bs:ByteArray}(n:Nat)(h:Ob.ok P (.str x bs))(k:OL P os ob):OL P (.cv bs::(qG n++os)) (.str x bs::ob):=⟨⟨h,k.ok⟩⟩
theorem o5:∀l:List U8,aH (zH kT l)=some l|[]=>rfl|x::l=>by show aH (.val (.int .u8 x)::zH kT l)=_;rw[aH,o5 l];rfl
theorem zPn{t d e:TypeId}(hs:P.underlying t=some (.slice e))(hd:P.underlying d=some .string)(he:P.underlying e=some (.int .u8))(l:List U8):Ob.ok P (.str (lR P t d (zH kT l) l.length) (tN l)):=by
 show lR P t d (zH kT l) l.length=some (tN l);have h1:(zH kT l).length=l.length:=by rw[uO A0.len,Nat.mul_one]
 unfold lR;simp only[hs,hd,he];rw[List.take_of_length_le (by omega),o5];simp
def gtx(n:Nat)(l:List U8):Option ByteArray:=if l.length=n then some (tN l)else none
theorem zPm{t d e:TypeId}(hs:P.underlying t=some (.slice e))(hd:P.underlying d=some .string)(he:P.underlying e=some (.int .u8)){l:List U8}{n:Nat}{bs:ByteArray}(h:gtx n l=some bs):Ob.ok P (.str (lR P t d (zH kT l) n) bs):=by
 unfold gtx at h;split at h
 ·rename_i hn;subst hn;cases h;exact zPn hs hd he l
 ·cases h
theorem yAh{t t2:TypeId}{k:IntKind}(h2:P.underlying t2=some (.int k)){n:Int}(hp:n>0){cs:List AV}{m:Nat}(h:Ob.ok P (.mk (qW P t (ai n) (ai n)) cs m)):Ob.ok P (.mk (w7 P t t2 (ai n)) cs m):=by show w7 P t t2 (ai n)=some (cs,m);unfold w7;rw[h2];simp only;rw[if_pos (by omega)];exact h
theorem oX{X:yK}{v:AV}{Y:Option yK}(n:Nat)(h:Ob.ok P (.nx X v Y))(k:OL P os ob):OL P (.nx v Y::(qG n++os)) (.nx X v Y::ob):=⟨⟨h,k.ok⟩⟩
theorem oPs{t t2:TypeId}{es es':List AV}{bs:ByteArray}{n1 n' sz:Nat}{e:Bool}(n:Nat)(h:Ob.ok P (.aps t t2 es bs es' n1 n' sz e))(k:OL P os ob):OL P (.app es' n' sz e::(qG n++os)) (.aps t t2 es bs es' n1 n' sz e::ob):=⟨⟨h,k.ok⟩⟩
end
abbrev fZ:=yF
def entZ(e:yF):List AV:=[ai e.kind,at' e.name,ai e.type.k,ai e.type.n,.sl (zH zA e.type.sub) e.type.sub.length .no,ai e.body.k,ai e.body.n,.sl (zH zA e.body.sub) e.body.sub.length .no,ai e.fam,ai e.place,ai e.pars,ai e.inds,ai e.level,.sl (zH zW e.cons) e.cons.length .z,.sl (zH zW e.fields) e.fields.length .z]
theorem zDJ:vB entZ 15:=⟨λ_=>rfl,λx=>⟨trivial,trivial,trivial,trivial,⟨trivial,dT _⟩,trivial,trivial,⟨trivial,dT _⟩,trivial,trivial,trivial,trivial,trivial,⟨trivial,dI _⟩,⟨trivial,dI _⟩,trivial⟩,λ_=>rfl⟩
theorem CT.wk{P:Program}{f:FuncId}{H0:List yK}{args:List AV}{res res':AV}{H1:List yK}{nst:Nat}(h:CT P f H0 args res H1 nst)(k:Wk res res')(hf:res'.fine (λi=>i<H1.length)):CT P f H0 args res' H1 nst:=by refine⟨λG0 W cargs hB hR hv=>(h.tri G0 W cargs hB hR hv).mono ?_,h.args,h.H0,hf,h.H1⟩;rintro e W'⟨u,G',s',h1,h2,h3,h4,h5⟩;exact⟨u,G',s',h1,h2,h3,k _ _ _ h4,h5⟩
theorem V.znil{G:Gh}{w:World}{u:Value}(h:V G w (.sl [] 0 .z) u):V G w (.sl [] 0 .full) u:=by
 simp only[V,pF]at h⊢;obtain⟨cap,hc,⟨h1,h2,h3,h4,h5⟩|⟨b,off,h1,h2,h3⟩⟩:=h;·exact⟨cap,hc,.inl ⟨h1,h2,h3,h4,trivial⟩⟩
 ·exact⟨cap,hc,.inr ⟨b,off,h1,h2,h3 (by trivial)⟩⟩
theorem CT.zfull{P:Program}{f:FuncId}{args:List AV}(h:CT P f [] args (.sl [] 0 .full) [] 0):CT P f [] args (.sl [] 0 .z) [] 0:=h.wk (by
 intro G w u h;simp only[V,pF]at h⊢;obtain⟨cap,hc,⟨h1,h2,h3,h4,h5⟩|⟨b,off,h1,h2,h3⟩⟩:=h;·exact⟨cap,hc,.inl ⟨h1,h2,h3,h4,trivial⟩⟩
 ·exact⟨cap,hc,.inr ⟨b,off,h1,h2,λ_=>h3⟩⟩) trivial
theorem CT.zno{P:Program}{f:FuncId}{args es:List AV}{n:Nat}(hn:n≠0)(hd:AV.DataL es)(h:CT P f [] args (.sl es n .no) [] 0):CT P f [] args (.sl es n .z) [] 0:=h.wk (by
 intro G w u h;simp only[V,pF]at h⊢;obtain⟨cap,hc,⟨h1,h2,h3,h4,h5⟩|⟨b,off,h1,h2,h3⟩⟩:=h;·exact(hn h2).elim
 ·exact⟨cap,hc,.inr ⟨b,off,h1,h2,λe=>(hn e).elim⟩⟩) hd
theorem V.unown{G:Gh}{w:World}{es:List AV}{n:Nat}{o:qT}{u:Value}(h:V G w (.sl es n o) u):V G w (.sl es n .no) u:=V.frz _ _ h
theorem VC.entZ{G:Gh}{w:World}:∀(l:List yF)(b off:Nat),VC G w (zH Ab.entZ l) b off->VC G w (zH zV l) b off|[],_,_,_=>by simp[zH,VC]|e::l,b,off,h=>by have h':VC G w (Ab.entZ e++zH Ab.entZ l) b off:=h;show VC G w (zV e++zH zV l) b off;simp only[Ab.entZ,zV,List.cons_append,List.nil_append,VC]at h'⊢;obtain⟨l0,c0,l1,c1,l2,c2,l3,c3,l4,c4,l5,c5,l6,c6,l7,c7,l8,c8,l9,c9,l10,c10,l11,c11,l12,c12,l13,⟨v13,e13,h13⟩,l14,⟨v14,e14,h14⟩,hr⟩:=h';exact⟨l0,c0,l1,c1,l2,c2,l3,c3,l4,c4,l5,c5,l6,c6,l7,c7,l8,c8,l9,c9,l10,c10,l11,c11,l12,c12,l13,⟨v13,e13,V.unown h13⟩,l14,⟨v14,e14,V.unown h14⟩,VC.entZ l _ _ hr⟩
theorem wkr(a:AV):Wk a a:=λ_ _ _ h=>h
theorem wkE(l:List yF)(o:qT):Wk (.sl (zH entZ l) l.length o) (.sl (zH zV l) l.length .no):=by
 intro G w u h;simp only[V]at h⊢;obtain⟨cap,hc,hh⟩:=h;refine⟨cap,hc,?_⟩;rcases hh with⟨h1,h2,h3,h4,h5⟩|⟨b,off,hu,hcells,ho⟩
 ·have:l=[]:=List.length_eq_zero_iff.1 h2;subst this;exact .inl ⟨rfl,rfl,h3,h4,trivial⟩
 ·exact .inr ⟨b,off,hu,VC.entZ l b off hcells,trivial⟩
theorem wkC{x:yF}(h:x.cons.isEmpty=true):Wk (.agg (entZ x)) (.agg [ai x.kind,at' x.name,ai x.type.k,ai x.type.n,.sl (zH zA x.type.sub) x.type.sub.length .no,ai x.body.k,ai x.body.n,.sl (zH zA x.body.sub) x.body.sub.length .no,ai x.fam,ai x.place,ai x.pars,ai x.inds,ai x.level,.sl (zH zW ([]:List Int)) ([]:List Int).length .full,.sl (zH zW x.fields) x.fields.length .no]):=by intro G w u hv;have hc:x.cons=[]:=List.isEmpty_iff.1 h;simp only[V,Ab.entZ,hc]at hv⊢;obtain⟨vs,rfl,hl⟩:=hv;refine⟨vs,rfl,?_⟩;match vs,hl with|[v0,v1,v2,v3,v4,v5,v6,v7,v8,v9,v10,v11,v12,v13,v14],hl=>simp only[VL]at hl⊢;obtain⟨h0,h1,h2,h3,h4,h5,h6,h7,h8,h9,h10,h11,h12,h13,h14,_⟩:=hl;exact⟨h0,h1,h2,h3,h4,h5,h6,h7,h8,h9,h10,h11,h12,V.znil h13,V.unown h14,trivial⟩
section
variable{P:Program}{os:List nS}{ob:List Ob}
theorem oWk{a0 a:AV}(n:Nat)(h:Wk a0 a)(k:OL P os ob):OL P (.wk a::(qG n++os)) (.wk a0 a::ob):=⟨⟨h,k.ok⟩⟩
end
abbrev wM:Nat->Prop:=λ_=>True
mutual def AV.ptB(keep:List Nat):AV->Bool|.val _=>true|.agg cs=>AV.ptBL keep cs|.tup cs=>AV.ptBL keep cs|.sl _ _ _=>true|.ip _=>true|.mp i _=>sW keep i|.ms i _ _ _ _=>sW keep i|.obj i=>sW keep i|.clo _ fs cs=>AV.ptBL keep fs&&AV.ptBL keep cs def AV.ptBL(keep:List Nat):List AV->Bool|[]=>true|a::l=>AV.ptB keep a&&AV.ptBL keep l end
mutual theorem AV.pt_fine{keep:List Nat}:∀a:AV,a.ptB keep=true->a.fine wM->a.fine (λi=>i∈keep)|.val _,_,_=>trivial|.agg cs,h,k=>AV.pt_fineL cs h k|.tup cs,h,k=>AV.pt_fineL cs h k|.sl _ _ _,_,k=>k|.ip _,_,k=>k|.mp _ _,h,_=>wT.1 h|.ms _ _ _ _ _,h,_=>wT.1 h|.obj _,h,_=>wT.1 h|.clo _ fs cs,h,k=>by simp only[AV.ptB,Bool.and_eq_true]at h;exact⟨AV.pt_fineL fs h.1 k.1,AV.pt_fineL cs h.2 k.2⟩theorem AV.pt_fineL{keep:List Nat}:∀l:List AV,AV.ptBL keep l=true->AV.fineL wM l->AV.fineL (λi=>i∈keep) l|[],_,_=>trivial|a::l,h,k=>by simp only[AV.ptBL,Bool.and_eq_true]at h;exact⟨AV.pt_fine a h.1 k.1,AV.pt_fineL l h.2 k.2⟩end
mutual theorem AV.fine_any{p:Nat->Prop}:∀a:AV,a.fine p->a.fine wM|.val _,_=>trivial|.agg cs,h=>AV.fine_anyL cs h|.tup cs,h=>AV.fine_anyL cs h|.sl _ _ _,h=>h|.ip _,h=>h|.mp _ _,_=>trivial|.ms _ _ _ _ _,_=>trivial|.obj _,_=>trivial|.clo _ fs cs,h=>⟨AV.fine_anyL fs h.1,AV.fine_anyL cs h.2⟩theorem AV.fine_anyL{p:Nat->Prop}:∀l:List AV,AV.fineL p l->AV.fineL wM l|[],_=>trivial|a::l,h=>⟨AV.fine_any a h.1,AV.fine_anyL l h.2⟩end
mutual theorem AV.unren_any{r:Nat->Nat}{f:Nat->Option Nat}:∀a:AV,(a.ren r f).fine wM->a.fine wM|.val _,_=>trivial|.agg cs,h=>AV.unren_anyL cs h|.tup cs,h=>AV.unren_anyL cs h|.sl _ _ _,h=>h|.ip _,h=>h|.mp _ _,_=>trivial|.ms _ _ _ _ _,_=>trivial|.obj _,_=>trivial|.clo _ fs cs,h=>⟨AV.unren_anyL fs h.1,AV.unren_anyL cs h.2⟩theorem AV.unren_anyL{r:Nat->Nat}{f:Nat->Option Nat}:∀l:List AV,AV.fineL wM (AV.renL r f l)->AV.fineL wM l|[],_=>trivial|a::l,h=>⟨AV.unren_any a h.1,AV.unren_anyL l h.2⟩end
mutual theorem AV.unfrz_any:∀a:AV,a.frz.fine wM->a.fine wM|.val _,_=>trivial|.agg cs,h=>AV.unfrz_anyL cs h|.tup cs,h=>AV.unfrz_anyL cs h|.sl _ _ _,h=>h|.ip _,h=>h|.mp _ _,_=>trivial|.ms _ _ _ _ _,_=>trivial|.obj _,_=>trivial|.clo _ fs cs,h=>⟨AV.unfrz_anyL fs h.1,AV.unfrz_anyL cs h.2⟩theorem AV.unfrz_anyL:∀l:List AV,AV.fineL wM (AV.frzL l)->AV.fineL wM l|[],_=>trivial|a::l,h=>⟨AV.unfrz_any a h.1,AV.unfrz_anyL l h.2⟩end
theorem o6(a:AV)(h:(frz1 a).fine wM):a.fine wM:=by
 unfold frz1 at h;split at h;·exact h
 ·exact AV.unfrz_any _ h
theorem S1:∀l:List AV,AV.fineL wM (l.map frz1)->AV.fineL wM l|[],_=>trivial|a::l,h=>⟨o6 a h.1,S1 l h.2⟩
theorem A6(a:AV)(h:(frzT a).fine wM):a.fine wM:=by
 unfold frzT at h;split at h;·exact S1 _ h
 ·exact o6 _ h
theorem zIG{keep:List Nat}(a:AV)(h:(frzN keep a).fine wM):a.fine wM:=by
 unfold frzN at h;split at h;·rename_i es n o;cases hb:o.nlB with|false=>rw[hb]at h;exact A6 _ h|true=>
  rw[hb]at h;simp only[cond_true]at h;split at h;·trivial
  ·exact A6 _ h
 ·exact A6 _ h
theorem zIH(a:AV)(h:a.frzK.fine wM):a.fine wM:=by
 unfold AV.frzK at h;split at h;·rename_i es n o;cases hb:o.nlB with|false=>rw[hb]at h;exact h|true=>
  rw[hb]at h;simp only[cond_true]at h;split at h;·trivial
  ·exact h
 ·exact AV.unfrz_any _ h
theorem S2:∀l:List AV,AV.fineL wM (l.map AV.frzK)->AV.fineL wM l|[],_=>trivial|a::l,h=>⟨zIH a h.1,S2 l h.2⟩
theorem yK.fine_any{p:Nat->Prop}{X:yK}(h:X.fine p):X.fine wM:=by cases X with|cells cs=>exact AV.fine_anyL cs h|obj o=>trivial|row cs=>exact h|dead=>trivial
theorem yK.unfz_any{k:Bool}{X:yK}(h:(X.fzB k).fine wM):X.fine wM:=by cases X with
 |cells cs=>cases k with|true=>exact S2 cs h|false=>exact AV.unfrz_anyL cs h
 |obj o=>trivial|row cs=>exact h|dead=>trivial
theorem yK.unren_any{r:Nat->Nat}{f:Nat->Option Nat}{X:yK}(h:(X.ren r f).fine wM):X.fine wM:=by cases X with|cells cs=>exact AV.unren_anyL cs h|obj o=>trivial|row cs=>exact h|dead=>trivial
def yK.ptB(keep:List Nat):yK->Bool|.cells cs=>AV.ptBL keep cs|_=>true
theorem yK.pt_fine{keep:List Nat}{X:yK}(h:X.ptB keep=true)(k:X.fine wM):X.fine (λi=>i∈keep):=by cases X with|cells cs=>exact AV.pt_fineL cs h k|obj o=>trivial|row cs=>exact k|dead=>trivial
def S3(keep:List Nat)(s:yT):List Nat->Bool|[]=>true|i::l=>((look s.H i).getD (.cells [])).ptB keep&&S3 keep s l
theorem o8{keep:List Nat}{s:yT}:∀l:List Nat,S3 keep s l=true->(∀i∈l,((look s.H i).getD (.cells [])).fine wM)->oT keep s l|[],_,_=>trivial|i::l,h,k=>by simp only[S3,Bool.and_eq_true]at h;exact⟨yK.pt_fine h.1 (k i (List.mem_cons_self ..)),o8 l h.2 λj hj=>k j (List.mem_cons_of_mem _ hj)⟩
def zPl(keep live:List Nat):List AV->Nat->Bool|[],_=>true|a::l,t=>(bif sW live t then a.ptB keep else true)&&zPl keep live l (t+1)
theorem zKC{keep ks live:List Nat}{j:Nat->Value}:∀(env:List AV)(t:Nat),zPl keep live env t=true->AV.fineL wM (reEnv keep ks live j env t)->iB keep live env t|[],_,_,_=>trivial|a::l,t,h,k=>by simp only[zPl,Bool.and_eq_true]at h;simp only[reEnv,AV.fineL]at k;refine⟨?_,zKC l (t+1) h.2 k.2⟩;cases hm:sW live t with|false=>trivial|true=>have h1:=h.1;have k1:=k.1;rw[hm]at h1 k1;exact AV.pt_fine a h1 (AV.unren_any a k1)
theorem o9{H:List (Nat×yK)}{keep ks:List Nat}:∀(l:List Nat)(j:Nat),(∀p∈nH H keep ks l j,p.2.fine wM)->∀i∈l,((look H i).getD (.cells [])).fine wM
 |[],_,_,_,h=>nomatch h|i::l,j,h,k,hk=>by
  rcases List.mem_cons.1 hk with rfl|hk;·exact yK.unren_any (h _ (List.mem_cons_self ..))
  ·exact o9 l (j+1) (λp hp=>h p (List.mem_cons_of_mem _ hp)) k hk
theorem n6{H:List (Nat×yK)}{keep ks:List Nat}:∀(l:List Nat)(j m:Nat),m=l.length->(∀t,t<m->(look (nH H keep ks keep 0) (j+t))=(l[t]?).map λi=>((look H i).getD (.cells [])).ren (vO keep) (place ks))->(∀X∈uY (nH H keep ks keep 0) j m,X.fine wM)->∀i∈l,((look H i).getD (.cells [])).fine wM
 |[],_,_,_,_,_,_,h=>nomatch h|i::l,j,m,hm,hl,h,k,hk=>by
  subst hm;simp only[List.length_cons,uY]at h;rcases List.mem_cons.1 hk with rfl|hk
  ·have h0:=h _ (List.mem_cons_self ..);have:=hl 0 (by simp);simp only[Nat.add_zero,List.getElem?_cons_zero,Option.map_some]at this;rw[this]at h0;exact yK.unren_any h0
  ·refine n6 l (j+1) l.length rfl (λt ht=>?_) (λX hX=>h X (List.mem_cons_of_mem _ hX)) k hk;have:=hl (t+1) (by simpa using ht);rw[show j+1+t=j+(t+1)by omega,this];simp
def aM(P:Program)(pr:FuncId->List AV->yT->Option LA)(na:Nat)(fn:Func)(n:Nat)(m:Md)(fs:List Fr)(env:List AV)(s:yT)(os:List nS)(rs:List (Option Nat×Nat×Nat))(keep ks:List Nat)(own:Bool):Option (AV×List yK×List Ob):=match pE P pr n m fs env s os with
 |some (.fin x,env1,s1,[],ob)=>match x with|.exit _=>none|_=>match restamps rs env1 s1 with|none=>none|some (env',s')=>match y6 P (look s'.H) env' fn.results.toList with
  |some r=>bif reB na keep ks s'&&(S3 keep s' keep&&r.ptB keep)then some (bif own then frzN keep (r.ren (vO keep) (place ks))else(r.ren (vO keep) (place ks)).frz,(uY (kZ keep ks s').H 0 keep.length).map (yK.fzB own),ob)else none|none=>none
 |_=>none
theorem zFE{P:Program}{pr:FuncId->List AV->yT->Option LA}(hp:sQ P pr)(hm:P.follows .mixedOrders=true){na:Nb}{fn:Func}{n:Nat}{m:Md}{fs:List Fr}{env:List AV}{s:yT}{os:List nS}{rs:List (Option Nat×Nat×Nat)}{keep ks:List Nat}{own:Bool}{res:AV}{H1:List yK}{nst:Nat}{ob:List Ob}(h:aM P pr na.n fn n m fs env s os rs keep ks own=some (res,H1,ob))(hob:yU P ob)(hn:nst<=ks.length)(fr:res.fine wM)(fb:∀X∈H1,X.fine wM):zBP P na (aA P na fn res H1 nst) fs env s m:=by
 unfold aM at h;split at h
 ·rename_i x env1 s1 ob' hr;have key:(x=.normal\/x=.ret)/\∃env' s',restamps rs env1 s1=some (env',s')/\∃r,y6 P (look s'.H) env' fn.results.toList=some r/\(bif reB na.n keep ks s'&&(S3 keep s' keep&&r.ptB keep)then some (bif own then frzN keep (r.ren (vO keep) (place ks))else(r.ren (vO keep) (place ks)).frz,(uY (kZ keep ks s').H 0 keep.length).map (yK.fzB own),ob')else none)=some (res,H1,ob):=by cases x with
   |exit i=>cases h|normal=>
    simp only at h;split at h;·cases h
    rename_i env' s' hrs;split at h;·rename_i r hr;exact⟨.inl rfl,env',s',hrs,r,hr,h⟩
    ·cases h|ret=>
    simp only at h;split at h;·cases h
    rename_i env' s' hrs;split at h;·rename_i r hr;exact⟨.inr rfl,env',s',hrs,r,hr,h⟩
    ·cases h
  obtain⟨hx,env',s',hrs,r,hres,h⟩:=key;cases hb:reB na.n keep ks s'&&(S3 keep s' keep&&r.ptB keep)with|false=>rw[hb]at h;cases h|true=>
   rw[hb]at h;simp only[cond_true,Option.some.injEq,Prod.mk.injEq]at h;obtain⟨e1,rfl,rfl⟩:=h;simp only[Bool.and_eq_true]at hb;obtain⟨b1,b2,b3⟩:=hb;have hfr:r.fine wM:=by subst e1;cases own with|true=>exact AV.unren_any _ (zIG _ fr)|false=>exact AV.unren_any _ (AV.unfrz_any _ fr)
   have hfb:∀i∈keep,((look s'.H i).getD (.cells [])).fine wM:=by refine n6 (keep:=keep) (ks:=ks) keep 0 keep.length rfl (λt ht=>?_) λX hX=>yK.unfz_any (fb _ (List.mem_map_of_mem hX));rw[lQ];simp
   refine lS hp hm _ _ _ _ _ _ _ _ _ _ _ hr hob ⟨hx,rs,env',s',hrs,r,keep,ks,hres,b1,o8 _ b2 hfb,AV.pt_fine _ b3 hfr,λG w u hu=>?_,⟨own,rfl⟩,hn⟩;subst e1;cases own with|true=>exact V.frzN hu|false=>exact V.frz _ _ hu
 ·cases h
def A7(P:Program)(pr:FuncId->List AV->yT->Option LA)(na n:Nat)(m:Md)(fs:List Fr)(env:List AV)(s:yT)(os:List nS)(rs:List (Option Nat×Nat×Nat))(keep ks live:List Nat)(j:Nat->Value):Option (Code×List Fr×List AV×yT×List Ob):=match pE P pr n m fs env s os with
 |some (.head c fs',env1,s1,[],ob)=>match restamps rs env1 s1 with
  |none=>none|some (env',s')=>bif reB na keep ks s'&&(S3 keep s' keep&&zPl keep live env' 0)then some (c,fs',reEnv keep ks live j env' 0,kZ keep ks s',ob)else none
 |_=>none
theorem zBW{P:Program}{pr:FuncId->List AV->yT->Option LA}(hp:sQ P pr)(hm:P.follows .mixedOrders=true){na:Nb}{Q:AX->List AV->yT->Prop}{n:Nat}{m:Md}{fs fs':List Fr}{env:List AV}{E:(Nat->Value)->List AV}{s S:yT}{os:List nS}{rs:List (Option Nat×Nat×Nat)}{keep ks live:List Nat}{c:Code}{ob:List Ob}(h:∀j,A7 P pr na.n n m fs env s os rs keep ks live j=some (c,fs',E j,S,ob))(hob:yU P ob)(fe:∀j,AV.fineL wM (E j))(fb:∀p∈S.H,p.2.fine wM)(hk:∀j,Dl P na c (E j) S (wS P na Q fs')):zBP P na Q fs env s m:=by
 have h0:=h λ_=>undef;unfold A7 at h0;split at h0
 ·rename_i c' fs1 env1 s1 ob' hr;split at h0;·cases h0
  rename_i env' s' hrs;cases hb:reB na.n keep ks s'&&(S3 keep s' keep&&zPl keep live env' 0)with|false=>rw[hb]at h0;cases h0|true=>rw[hb]at h0;simp only[cond_true,Option.some.injEq,Prod.mk.injEq]at h0;obtain⟨rfl,rfl,e0,rfl,rfl⟩:=h0;have hb':=hb;simp only[Bool.and_eq_true]at hb';obtain⟨b1,b2,b3⟩:=hb';refine lS hp hm _ _ _ _ _ _ _ _ _ _ _ hr hob ?_;refine Dl.restamps hrs ?_;refine Dl.re keep ks live b1 (o8 _ b2 (o9 keep 0 fb)) (zKC _ _ b3 (by rw[e0];exact fe _)) λj=>?_;have hj:=h j;unfold A7 at hj;rw[hr]at hj;simp only[hrs,hb,cond_true,Option.some.injEq,Prod.mk.injEq]at hj;rw[hj.2.2.1];exact hk j
 ·cases h0
theorem E8(j:Nat->Value):∀(n i:Nat)(l:List (Nat×AV)),(∀p∈l,p.2.fine wM)->AV.fineL wM (sp j n i l)|0,_,_,_=>trivial|n+1,i,[],_=>⟨trivial,E8 j n (i+1) [] (λ_ h=>nomatch h)⟩|n+1,i,(m,a)::l,h=>by rw[sp];cases Nat.beq m i with|true=>exact⟨h _ (List.mem_cons_self ..),E8 j n (i+1) l λp hp=>h p (List.mem_cons_of_mem _ hp)⟩|false=>exact⟨trivial,E8 j n (i+1) _ h⟩
class Cd{α:Type}(c:α->List AV):Prop where data:∀x,AV.DataL (c x)
theorem Cd.d{α:Type}{c:α->List AV}[Cd c](l:List α):AV.DataL (zH c l):=vX Cd.data l
instance:Cd zA:=⟨sY.data⟩
instance:Cd tmL:=⟨λt=>by rw[<-xO];exact sY.data t⟩
instance:Cd zW:=⟨kL.data⟩
instance:Cd kT:=⟨A0.data⟩
instance:Cd xC:=⟨u9.data⟩
instance:Cd zV:=⟨A1.data⟩
instance:Cd gU:=⟨zDC.data⟩
instance:Cd sX:=⟨zDD.data⟩
def Rn(P:Program){ρ:Type}(T:ρ->Prop)(os:List nS)(ob:List Ob)(o:Option ρ):Prop:=∀r,o=some r->OL P os ob->T r
theorem pN{α β:Type}{p:α⊕β->Prop}(h:∀a,p (.inl a))(k:∀b,p (.inr b)):∀x,p x|.inl a=>h a|.inr b=>k b
def Cs(P:Program){ρ:Type}(o:Option ρ)(f:FuncId)(H0:List yK)(args:List AV)(res:ρ->AV)(H1:ρ->List yK)(nst:Nat):Prop:=∀r,o=some r->CT P f H0 args (res r) (H1 r) nst
def Ls(P:Program){ρ:Type}(o:Option ρ)(na:Nb)(fn:Func)(c:Code)(E:(Nat->Value)->List AV)(S:yT)(res:ρ->AV)(H1:ρ->List yK)(nst:Nat)(fs:List Fr):Prop:=∀r,o=some r->∀j,Dl P na c (E j) S (wS P na (aA P na fn (res r) (H1 r) nst) fs)
theorem cN{P:Program}{ρ:Type}{f:FuncId}{H0:List yK}{args:List AV}{res:ρ->AV}{H1:ρ->List yK}{nst:Nat}:Cs P none f H0 args res H1 nst:=λ_ h=>nomatch h
theorem lN{P:Program}{ρ:Type}{na:Nb}{fn:Func}{c:Code}{E:(Nat->Value)->List AV}{S:yT}{res:ρ->AV}{H1:ρ->List yK}{nst:Nat}{fs:List Fr}:Ls P none na fn c E S res H1 nst fs:=λ_ h=>nomatch h
section
variable{P:Program}{ρ α:Type}{T:ρ->Prop}{os:List nS}{ob:List Ob}
theorem rN:Rn P T os ob none:=λ_ h=>nomatch h
theorem rH{o:Option α}{f:α->Option ρ}(k:∀a,o=some a->Rn P T os ob (f a)):Rn P T os ob (o>>=f):=λr h q=>by obtain⟨a,h1,h2⟩:=sS h;exact k a h1 r h2 q
theorem rI{c:Bool}{x y:Option ρ}(k1:c=true->Rn P T os ob x)(k2:c=false->Rn P T os ob y):Rn P T os ob (if c=true then x else y):=λr h q=>by
 rcases spl h with⟨h1,h⟩|⟨h1,h⟩;·exact k1 h1 r h q
 ·exact k2 h1 r h q
theorem rS{os':List nS}{ob':List Ob}{o:Option ρ}(w:OL P os ob->OL P os' ob')(k:Rn P T os' ob' o):Rn P T os ob o:=λr h q=>k r h (w q)
theorem rW{o:Option α}{f:α->Option ρ}{os':α->List nS}{ob':α->List Ob}(w:∀{a},o=some a->OL P os ob->OL P (os' a) (ob' a))(k:∀a,Rn P T (os' a) (ob' a) (f a)):Rn P T os ob (o>>=f):=rH λa h=>rS (w h) (k a)
theorem rA{o:Option α}{f:α->Option ρ}{X:Option AV}{c:α->AV}(n:Nat)(w:∀{a},o=some a->X=some (c a))(k:∀a,Rn P T (.av (c a)::(qG n++os)) (.av X (c a)::ob) (f a)):Rn P T os ob (o>>=f):=rH λa h=>rS (oA n (w h)) (k a)
theorem rC{o:Option α}{g:α->Option ρ}{f:FuncId}{H0:List yK}{args:List AV}{res:α->AV}{H1:α->List yK}{nst:Nat}(n:Nat)(ι:List Nat)(w:Cs P o f H0 args res H1 nst)(k:∀a,Rn P T (.call ι (H1 a) nst (res a) none::(qG n++os)) (.call f H0 args (res a) (H1 a) nst::ob) (g a)):Rn P T os ob (o>>=g):=rH λa h=>rS (oC n ι (w a h)) (k a)
theorem rB{c:Bool}{x y:Option ρ}(n:Nat)(k1:Rn P T (.bit true::(qG n++os)) (.bit c true::ob) x)(k2:Rn P T (.bit false::(qG n++os)) (.bit c false::ob) y):Rn P T os ob (if c=true then x else y):=rI (λh=>rS (oB n h) k1) λh=>rS (oB n h) k2
theorem rK{o:Option α}{c:α->Bool}{x y:α->Option ρ}{f:FuncId}{H0:List yK}{args:List AV}{res:α->AV}{H1:α->List yK}{nst:Nat}(n:Nat)(ι:List Nat)(w:Cs P o f H0 args res H1 nst)(k1:∀a,Rn P T (.call ι (H1 a) nst (res a) (some true)::(qG n++os)) (.call f H0 args (res a) (H1 a) nst::.bit (c a) true::ob) (x a))(k2:∀a,Rn P T (.call ι (H1 a) nst (res a) (some false)::(qG n++os)) (.call f H0 args (res a) (H1 a) nst::.bit (c a) false::ob) (y a)):Rn P T os ob (o>>=λa=>if c a=true then x a else y a):=rH λa h=>rI (λh1=>rS (oK n ι h1 (w a h)) (k1 a)) λh1=>rS (oK n ι h1 (w a h)) (k2 a)
theorem rZ(b:Prop){o:Option ρ}(k1:b->Rn P T os ob o)(k2:¬b->Rn P T os ob o):Rn P T os ob o:=(Classical.em b).elim k1 k2
end
def fT(P:Program){ρ:Type}(f:FuncId)(fn:Func)(H0:List yK)(args:List AV)(res:ρ->AV)(H1:ρ->List yK)(nst:Nat)(r:ρ):Prop:=P.funcs[f]?=some fn->fn.body.isNone=false->((res r).fine wM/\∀X∈H1 r,X.fine wM)->uH P f H0 args (res r) (H1 r) nst
def lT(P:Program){ρ:Type}(na:Nb)(fn:Func)(res:ρ->AV)(H1:ρ->List yK)(nst:Nat)(c:Code)(fs:List Fr)(env:List AV)(s:yT)(r:ρ):Prop:=((res r).fine wM/\∀X∈H1 r,X.fine wM)->Dl P na c env s (wS P na (aA P na fn (res r) (H1 r) nst) fs)
section
variable{P:Program}{ρ:Type}{res:ρ->AV}{H1:ρ->List yK}{nst:Nat}{fn:Func}{o:Option ρ}
def yAg(H0:List yK)(args:List AV)(res:ρ->AV)(H1:ρ->List yK):Prop:=AV.argL (λi=>i<H0.length) args/\(∀X∈H0,X.arg (λi=>i<H0.length))/\∀r,(res r).fine (λi=>i<(H1 r).length)/\∀X∈H1 r,X.fine (λi=>i<(H1 r).length)
theorem fW{f:FuncId}{H0:List yK}{args:List AV}(q1:P.funcs[f]?=some fn)(q2:fn.body.isNone=false)(a:yAg H0 args res H1)(k:Rn P (fT P f fn H0 args res H1 nst) [] [] o):Cs P o f H0 args res H1 nst:=λr h=>⟨k r h OL.nil q1 q2 ⟨AV.fine_any _ (a.2.2 r).1,λX hX=>yK.fine_any ((a.2.2 r).2 X hX)⟩,a.1,a.2.1,(a.2.2 r).1,(a.2.2 r).2⟩
theorem lW{na:Nb}{c:Code}{fs:List Fr}{E:(Nat->Value)->List AV}{s:yT}(a:∀r,(res r).fine wM/\∀X∈H1 r,X.fine wM)(k:∀j,Rn P (lT P na fn res H1 nst c fs (E j) s) [] [] o):Ls P o na fn c E s res H1 nst fs:=λr h j=>k j r h OL.nil (a r)
variable{pr:FuncId->List AV->yT->Option LA}(hp:sQ P pr)(hm:P.follows .mixedOrders=true){os:List nS}{ob:List Ob}{x:ρ}
include hp hm
theorem zXH{f:FuncId}{H0:List yK}{args:List AV}(m:Nat)(rs:List (Option Nat×Nat×Nat))(keep ks:List Nat)(own:Bool)(h:aM P pr H0.length fn 3000 (.run (sV fn)) [] (args++List.replicate (fn.ntmps-args.length) (.val undef)) (V1 H0) ((qG m++os).reverseAux []) rs keep ks own=some (res x,H1 x,ob.reverseAux []))(hn:nst<=ks.length):Rn P (fT P f fn H0 args res H1 nst) os ob (some x):=by intro r e q q1 q2 a;cases e;exact uH.body q1 q2 (zFE (na:=(H0.length:Nb)) (m:=.run (sV fn)) (fs:=[]) hp hm h (yU.rev _ _ q.ok trivial) hn a.1 a.2)
theorem yAf{f:FuncId}{H0:List yK}{args:List AV}(m:Nat)(rs:List (Option Nat×Nat×Nat))(keep ks live:List Nat){c:Code}{fs':List Fr}{E:(Nat->Value)->List AV}{S:yT}(hk:Ls P o H0.length fn c E S res H1 nst fs')(h:∀j,A7 P pr H0.length 3000 (.run (sV fn)) [] (args++List.replicate (fn.ntmps-args.length) (.val undef)) (V1 H0) ((qG m++os).reverseAux []) rs keep ks live j=some (c,fs',E j,S,ob.reverseAux []))(fe:∀j,AV.fineL wM (E j))(fb:∀p∈S.H,p.2.fine wM):Rn P (fT P f fn H0 args res H1 nst) os ob o:=by intro r e q q1 q2 _;exact uH.body q1 q2 (zBW (na:=(H0.length:Nb)) (m:=.run (sV fn)) (fs:=[]) hp hm h (yU.rev _ _ q.ok trivial) fe fb (hk r e))
variable{na:Nb}{c:Code}{fs:List Fr}{env:List AV}{s:yT}
theorem lFin(m:Nat)(rs:List (Option Nat×Nat×Nat))(keep ks:List Nat)(own:Bool)(h:aM P pr na.n fn 3000 (.run c) (.loop c::fs) env s ((qG m++os).reverseAux []) rs keep ks own=some (res x,H1 x,ob.reverseAux []))(hn:nst<=ks.length):Rn P (lT P na fn res H1 nst c fs env s) os ob (some x):=by intro r e q a;cases e;exact Dl.step (zFE hp hm (m:=.run c) (fs:=.loop c::fs) h (yU.rev _ _ q.ok trivial) hn a.1 a.2)
theorem lHead(m:Nat)(rs:List (Option Nat×Nat×Nat))(keep ks live:List Nat){c':Code}{fs':List Fr}{E:(Nat->Value)->List AV}{S:yT}(hk:Ls P o na fn c' E S res H1 nst fs')(h:∀j,A7 P pr na.n 3000 (.run c) (.loop c::fs) env s ((qG m++os).reverseAux []) rs keep ks live j=some (c',fs',E j,S,ob.reverseAux []))(fe:∀j,AV.fineL wM (E j))(fb:∀p∈S.H,p.2.fine wM):Rn P (lT P na fn res H1 nst c fs env s) os ob o:=by intro r e q _;exact Dl.step (zBW hp hm (m:=.run c) (fs:=.loop c::fs) h (yU.rev _ _ q.ok trivial) fe fb (hk r e))
end
end Go.Ab
set_option linter.unusedSimpArgs false
namespace Go.Ab
open Go Go.RowKit
def slC{α:Type}(c:α->List AV)(l:List α):List AV:=[.sl (zH c l) l.length .no]
theorem yAe{α:Type}{c:α->List AV}{n:Nat}(h:vB c n):vB (slC c) 1:=⟨λ_=>rfl,λl=>⟨⟨trivial,vX h.data l⟩,trivial⟩,λ_=>rfl⟩
instance{α:Type}{c:α->List AV}[h:Cd c]:Cd (slC c):=⟨λx=>⟨⟨trivial,vX h.data x⟩,trivial⟩⟩
theorem yZ{P:Program}{α:Type}{C L:α->List AV}(he:∀t,C t=L t)(l:List α):Ob.ok P (.cells (zH L l) (zH C l) l.length l.length):=⟨by rw[show L=C from funext λt=>(he t).symm],rfl⟩
inductive zG where|mk(kind_:Int)(at_:Int)(name_:ByteArray)(n_:Int)(sub_:List zG)
def zG.kind_:zG->Int|.mk x _ _ _ _=>x
def zG.at_:zG->Int|.mk _ x _ _ _=>x
def zG.name_:zG->ByteArray|.mk _ _ x _ _=>x
def zG.n_:zG->Int|.mk _ _ _ x _=>x
def zG.sub_:zG->List zG|.mk _ _ _ _ x=>x
instance:Inhabited zG:=⟨.mk default default ⟨#[]⟩ default default⟩
mutual def zK:zG->List AV|.mk kind_ at_ name_ n_ sub_=>[ai kind_,ai at_,at' name_,ai n_,.sl (pO sub_) sub_.length .no]def pO:List zG->List AV|[]=>[]|t::l=>zK t++pO l end
theorem eA:∀l:List zG,pO l=zH zK l|[]=>rfl|t::l=>by simp only[pO,eA l,zH,List.flatMap_cons]
def dN(x:zG):List AV:=[ai x.kind_,ai x.at_,at' x.name_,ai x.n_,zC zK x.sub_ .no]
theorem vL(x:zG):zK x=dN x:=by cases x;simp only[zK,dN,zG.kind_,zG.at_,zG.name_,zG.n_,zG.sub_,eA,List.cons_append,List.nil_append]
def xB(x:zG):AV:=.agg (dN x)
mutual theorem aN:∀t:zG,AV.DataL (zK t)|.mk kind_ at_ name_ n_ sub_=>by rw[zK];exact⟨trivial,trivial,trivial,trivial,⟨trivial,eB sub_⟩,trivial⟩theorem eB:∀l:List zG,AV.DataL (pO l)|[]=>trivial|t::l=>by rw[pO];exact nT (aN t) (eB l)end
theorem pY:vB zK 5:=⟨λx=>by rw[vL];rfl,aN,λx=>by rw[vL];rfl⟩
instance:Cd zK:=⟨pY.data⟩
theorem dO(l:List zG):AV.DataL (zH zK l):=vX pY.data l
structure zM where
 name_:ByteArray
 at_:Int
 type_:zG
instance:Inhabited zM:=⟨⟨⟨#[]⟩,default,default⟩⟩
def zF(x:zM):List AV:=[at' x.name_,ai x.at_,ai x.type_.kind_,ai x.type_.at_,at' x.type_.name_,ai x.type_.n_,zC zK x.type_.sub_ .no]
def N0(x:zM):AV:=.agg (zF x)
theorem rF:vB zF 7:=⟨λ_=>rfl,λ_=>⟨trivial,trivial,trivial,trivial,trivial,trivial,⟨trivial,dO _⟩,trivial⟩,λ_=>rfl⟩
instance:Cd zF:=⟨rF.data⟩
theorem zBX(l:List zM):AV.DataL (zH zF l):=vX rF.data l
structure yO where
 at_:Int
 pats_:List zG
 has_:Bool
 body_:zG
instance:Inhabited yO:=⟨⟨default,default,default,default⟩⟩
def zY(x:yO):List AV:=[ai x.at_,zC zK x.pats_ .no,ab x.has_,ai x.body_.kind_,ai x.body_.at_,at' x.body_.name_,ai x.body_.n_,zC zK x.body_.sub_ .no]
def zFF(x:yO):AV:=.agg (zY x)
theorem nV:vB zY 8:=⟨λ_=>rfl,λ_=>⟨trivial,⟨trivial,dO _⟩,trivial,trivial,trivial,trivial,trivial,⟨trivial,dO _⟩,trivial⟩,λ_=>rfl⟩
instance:Cd zY:=⟨nV.data⟩
theorem zPk(l:List yO):AV.DataL (zH zY l):=vX nV.data l
structure xD where
 kind_:Int
 at_:Int
 name_:ByteArray
 tele_:List zM
 type_:zG
 cons_:List zM
 rows_:List yO
instance:Inhabited xD:=⟨⟨default,default,⟨#[]⟩,default,default,default,default⟩⟩
def vY(x:xD):List AV:=[ai x.kind_,ai x.at_,at' x.name_,zC zF x.tele_ .no,ai x.type_.kind_,ai x.type_.at_,at' x.type_.name_,ai x.type_.n_,zC zK x.type_.sub_ .no,zC zF x.cons_ .no,zC zY x.rows_ .no]
def N1(x:xD):AV:=.agg (vY x)
theorem kN:vB vY 11:=⟨λ_=>rfl,λ_=>⟨trivial,trivial,trivial,⟨trivial,zBX _⟩,trivial,trivial,trivial,trivial,⟨trivial,dO _⟩,⟨trivial,zBX _⟩,⟨trivial,zPk _⟩,trivial⟩,λ_=>rfl⟩
instance:Cd vY:=⟨kN.data⟩
structure zQ where
 kind_:Int
 text_:ByteArray
 at_:Int
instance:Inhabited zQ:=⟨⟨default,⟨#[]⟩,default⟩⟩
def zI(x:zQ):List AV:=[ai x.kind_,at' x.text_,ai x.at_]
def S4(x:zQ):AV:=.agg (zI x)
theorem nK:vB zI 3:=⟨λ_=>rfl,λ_=>⟨trivial,trivial,trivial,trivial⟩,λ_=>rfl⟩
instance:Cd zI:=⟨nK.data⟩
structure zFG where
 l_:List zQ
 i_:Int
 at_:Int
 bad_:Int
instance:Inhabited zFG:=⟨⟨default,default,default,default⟩⟩
structure zMg where
 l_:List yF
 parts_:List uA
instance:Inhabited zMg:=⟨⟨default,default⟩⟩
structure zFH where
 signs_:List Int
 at_:List Int
 i_:Int
instance:Inhabited zFH:=⟨⟨default,default,default⟩⟩
structure zFI where
 l_:List yF
 e_:Int
 at_:Int
instance:Inhabited zFI:=⟨⟨default,default,default⟩⟩
structure zMf where e_:Int
instance:Inhabited zMf:=⟨⟨default⟩⟩
end Go.Ab
namespace Go.Proofs.YthncchbcdpbgaaaGreat
open Go Go.Ab Go.Proofs.Tryz
theorem zDK(b:Bool):b=true\/b=false:=by cases b<;>simp
theorem wA{α:Type}{p:α->Prop}:∀x∈([]:List α),p x:=λ_ h=>nomatch h
theorem wI{α:Type}{p:α->Prop}{a:α}{l:List α}(h:p a)(k:∀x∈l,p x):∀x∈a::l,p x:=by
 intro x hx;rcases List.mem_cons.1 hx with rfl|hx;·exact h
 ·exact k x hx
instance:Cd entZ:=⟨zDJ.data⟩
theorem o0:OL prog [] []:=OL.nil
abbrev mB(M:xT)(i:Nat):yK:=.cells [zC zV M.l .no,.mp i 0,zC zW M.args .no,zC zW M.own .no]
abbrev mR(M:xT):yK:=.cells [zC zV M.rl .no,zC sX M.parts .no]
theorem tv:True:=trivial
theorem lz{a b:Nat}(h:Nat.ble (a+1) b=true):a<b:=Nat.le_of_ble_eq_true h
abbrev Ct:=CT prog
abbrev Cz{ρ:Type}:=@Cs prog ρ
abbrev Lz{ρ:Type}:=@Ls prog ρ
abbrev Ci:=uH prog
abbrev Cf:=FuncId->List yK->List AV->AV->List yK->Nat->Prop
abbrev Qf(f:FuncId)(fn:Func):Prop:=prog.funcs[f]?=some fn/\fn.body.isNone=false
theorem yS{p:Nat->Prop}(z:p 0)(s:∀n,p n->p (n+1)):∀n,p n:=λn=>Nat.rec z s n
section
variable{ρ:Type}{res:ρ->AV}{H1:ρ->List yK}{nst:Nat}{fn:Func}{o:Option ρ}{r x:ρ}{f:FuncId}{H0:List yK}{args:List AV}{os:List nS}{ob:List Ob}
theorem fw(q1:prog.funcs[f]?=some fn)(k:Rn prog (fT prog f fn H0 args res H1 nst) [] [] o)(q2:fn.body.isNone=false:=by kernel_rfl)(a:yAg H0 args res H1:=by(repeat' first|exact Cd.d _|exact trivial|exact lz rfl|exact wA|refine And.intro ?_ ?_|refine wI ?_ ?_|refine pN ?_ ?_|intro _)):Cs prog o f H0 args res H1 nst:=fW q1 q2 a k
theorem fG(m:Nat)(rs:List (Option Nat×Nat×Nat))(keep ks:List Nat)(own:Bool)(h:aM prog nU H0.length fn 3000 (.run (sV fn)) [] (args++List.replicate (fn.ntmps-args.length) (.val undef)) (V1 H0) ((qG m++os).reverseAux []) rs keep ks own=some (res x,H1 x,ob.reverseAux []):=by kernel_rfl)(hn:nst<=ks.length:=by decide):Rn prog (fT prog f fn H0 args res H1 nst) os ob (some x):=zXH wN mixed m rs keep ks own h hn
theorem fF(m:Nat)(keep:List Nat)(h:aM prog nU H0.length fn 3000 (.run (sV fn)) [] (args++List.replicate (fn.ntmps-args.length) (.val undef)) (V1 H0) ((qG m++os).reverseAux []) [] keep [] false=some (res x,H1 x,ob.reverseAux []):=by kernel_rfl):Rn prog (fT prog f fn H0 args res H1 0) os ob (some x):=zXH wN mixed m [] keep [] false h (Nat.le_refl _)
theorem fE(m:Nat)(h:aM prog nU H0.length fn 3000 (.run (sV fn)) [] (args++List.replicate (fn.ntmps-args.length) (.val undef)) (V1 H0) ((qG m++os).reverseAux []) [] (range' 0 H0.length) [] false=some (res x,H1 x,ob.reverseAux []):=by kernel_rfl):Rn prog (fT prog f fn H0 args res H1 0) os ob (some x):=zXH wN mixed m [] _ [] false h (Nat.le_refl _)
theorem fH(m:Nat)(rs:List (Option Nat×Nat×Nat))(keep ks live:List Nat){c:Code}{fs':List Fr}{E:(Nat->Value)->List AV}{S:yT}(hk:Ls prog o H0.length fn c E S res H1 nst fs')(h:∀j,A7 prog nU H0.length 3000 (.run (sV fn)) [] (args++List.replicate (fn.ntmps-args.length) (.val undef)) (V1 H0) ((qG m++os).reverseAux []) rs keep ks live j=some (c,fs',E j,S,ob.reverseAux []):=by intro j;kernel_rfl)(fe:∀j,AV.fineL wM (E j):=by intro j;refine E8 _ _ _ _ ?_;(repeat' first|exact Cd.d _|exact trivial|exact lz rfl|exact wA|refine And.intro ?_ ?_|refine wI ?_ ?_|refine pN ?_ ?_|intro _))(fb:∀p∈S.H,p.2.fine wM:=by(repeat' first|exact Cd.d _|exact trivial|exact lz rfl|exact wA|refine And.intro ?_ ?_|refine wI ?_ ?_|refine pN ?_ ?_|intro _)):Rn prog (fT prog f fn H0 args res H1 nst) os ob o:=yAf wN mixed m rs keep ks live hk h fe fb
variable{na:Nb}{c:Code}{fs:List Fr}{env:List AV}{s:yT}
theorem lw{E:(Nat->Value)->List AV}(k:∀j,Rn prog (lT prog na fn res H1 nst c fs (E j) s) [] [] o)(a:∀r,(res r).fine wM/\∀X∈H1 r,X.fine wM:=by(repeat' first|exact Cd.d _|exact trivial|exact lz rfl|exact wA|refine And.intro ?_ ?_|refine wI ?_ ?_|refine pN ?_ ?_|intro _)):Ls prog o na fn c E s res H1 nst fs:=lW a k
theorem lG(m:Nat)(rs:List (Option Nat×Nat×Nat))(keep ks:List Nat)(own:Bool)(h:aM prog nU na.n fn 3000 (.run c) (.loop c::fs) env s ((qG m++os).reverseAux []) rs keep ks own=some (res x,H1 x,ob.reverseAux []):=by kernel_rfl)(hn:nst<=ks.length:=by decide):Rn prog (lT prog na fn res H1 nst c fs env s) os ob (some x):=lFin wN mixed m rs keep ks own h hn
theorem lF(m:Nat)(keep:List Nat)(h:aM prog nU na.n fn 3000 (.run c) (.loop c::fs) env s ((qG m++os).reverseAux []) [] keep [] false=some (res x,H1 x,ob.reverseAux []):=by kernel_rfl):Rn prog (lT prog na fn res H1 0 c fs env s) os ob (some x):=lFin wN mixed m [] keep [] false h (Nat.le_refl _)
theorem lE(m:Nat)(h:aM prog nU na.n fn 3000 (.run c) (.loop c::fs) env s ((qG m++os).reverseAux []) [] (range' 0 na.n) [] false=some (res x,H1 x,ob.reverseAux []):=by kernel_rfl):Rn prog (lT prog na fn res H1 0 c fs env s) os ob (some x):=lFin wN mixed m [] _ [] false h (Nat.le_refl _)
theorem lH(m:Nat)(rs:List (Option Nat×Nat×Nat))(keep ks live:List Nat){c':Code}{fs':List Fr}{E:(Nat->Value)->List AV}{S:yT}(hk:Ls prog o na fn c' E S res H1 nst fs')(h:∀j,A7 prog nU na.n 3000 (.run c) (.loop c::fs) env s ((qG m++os).reverseAux []) rs keep ks live j=some (c',fs',E j,S,ob.reverseAux []):=by intro j;kernel_rfl)(fe:∀j,AV.fineL wM (E j):=by intro j;refine E8 _ _ _ _ ?_;(repeat' first|exact Cd.d _|exact trivial|exact lz rfl|exact wA|refine And.intro ?_ ?_|refine wI ?_ ?_|refine pN ?_ ?_|intro _))(fb:∀p∈S.H,p.2.fine wM:=by(repeat' first|exact Cd.d _|exact trivial|exact lz rfl|exact wA|refine And.intro ?_ ?_|refine wI ?_ ?_|refine pN ?_ ?_|intro _)):Rn prog (lT prog na fn res H1 nst c fs env s) os ob o:=lHead wN mixed m rs keep ks live hk h fe fb
end
section
variable{f:FuncId}{fn:Func}{H0 H1:List yK}{args:List AV}{res:AV}{nst:Nat}{os:List nS}{ob:List Ob}
theorem tF(q:Qf f fn)(m:Nat)(keep:List Nat)(k:OL prog os ob)(h:zBk prog nU H0.length fn 3000 (.run (sV fn)) [] (args++List.replicate (fn.ntmps-args.length) (.val undef)) (V1 H0) ((qG m++os).reverseAux []) [] keep [] false=some (res,H1,ob.reverseAux []):=by kernel_rfl):uH prog f H0 args res H1 0:=OL.toFin wN mixed q m [] keep [] false k h (Nat.le_refl _)
theorem tH(q:Qf f fn)(m:Nat)(rs:List (Option Nat×Nat×Nat))(keep ks live:List Nat)(k:OL prog os ob){c:Code}{fs':List Fr}{E:(Nat->Value)->List AV}{S:yT}(hk:∀j,Dl prog H0.length c (E j) S (wS prog H0.length (aA prog H0.length fn res H1 nst) fs'))(h:∀j,D7 prog nU H0.length 3000 (.run (sV fn)) [] (args++List.replicate (fn.ntmps-args.length) (.val undef)) (V1 H0) ((qG m++os).reverseAux []) rs keep ks live j=some (c,fs',E j,S,ob.reverseAux []):=by intro j;kernel_rfl):uH prog f H0 args res H1 nst:=OL.toHead wN mixed q m rs keep ks live k hk h
variable{na:Nb}{Q:AX->List AV->yT->Prop}{c c':Code}{fs fs':List Fr}{env:List AV}{s S:yT}
theorem olH(m:Nat)(rs:List (Option Nat×Nat×Nat))(keep ks live:List Nat)(k:OL prog os ob){E:(Nat->Value)->List AV}(hk:∀j,Dl prog na c' (E j) S (wS prog na Q fs'))(h:∀j,D7 prog nU na.n 3000 (.run c) (.loop c::fs) env s ((qG m++os).reverseAux []) rs keep ks live j=some (c',fs',E j,S,ob.reverseAux []):=by intro j;kernel_rfl):Dl prog na c env s (wS prog na Q fs):=OL.lHead wN mixed m rs keep ks live k hk h
theorem olF(m:Nat)(keep:List Nat)(k:OL prog os ob)(h:zBk prog nU na.n fn 3000 (.run c) (.loop c::fs) env s ((qG m++os).reverseAux []) [] keep [] false=some (res,H1,ob.reverseAux []):=by kernel_rfl):Dl prog na c env s (wS prog na (aA prog na fn res H1 0) fs):=OL.lFin wN mixed m [] keep [] false k h (Nat.le_refl _)
end
theorem eC:prog.info? 37=some Tryz.t37:=by kernel_rfl
theorem zBY{l m r:List yF}(h:yR 192 l m=some r)(hm:m.length=0):Ob.ok prog (.app 23 23 (zH zV l) (zH zV m) (zH zV r) l.length m.length r.length 15 true):=mM A1 Tryz.underlying23 eC rfl rfl rfl (by decide) rfl (by decide) h hm
theorem zBZ:prog.info? 5=some Tryz.t5:=by kernel_rfl
theorem zII{l m r:List U8}(h:yR 1 l m=some r)(hm:m.length=0):Ob.ok prog (.app 280 280 (zH kT l) (zH kT m) (zH kT r) l.length m.length r.length 1 true):=mM A0 Tryz.underlying280 zBZ rfl rfl rfl (by decide) rfl (by decide) h hm
theorem iK:prog.info? 33=some Tryz.t33:=by kernel_rfl
theorem rG{l m r:List Tm}(h:yR 40 l m=some r)(hm:m.length=0):Ob.ok prog (.app 30 30 (zH zA l) (zH zA m) (zH zA r) l.length m.length r.length 3 true):=mM sY Tryz.underlying30 iK rfl rfl rfl (by decide) rfl (by decide) h hm
theorem n7:prog.info? 3=some Tryz.t3:=by kernel_rfl
theorem zPj{l m r:List Int}(h:yR 8 l m=some r)(hm:m.length=0):Ob.ok prog (.app 35 35 (zH zW l) (zH zW m) (zH zW r) l.length m.length r.length 1 true):=mM kL Tryz.underlying35 n7 rfl rfl rfl (by decide) rfl (by decide) h hm
theorem zDL:prog.info? 169=some Tryz.t169:=by kernel_rfl
theorem yAd{l m r:List zM}(h:yR 88 l m=some r)(hm:m.length=0):Ob.ok prog (.app 54 54 (zH zF l) (zH zF m) (zH zF r) l.length m.length r.length 7 true):=mM rF Tryz.underlying54 zDL rfl rfl rfl (by decide) rfl (by decide) h hm
theorem zKD:prog.info? 9=some Tryz.t9:=by kernel_rfl
theorem yAc{l m r:List ByteArray}(h:yR 16 l m=some r)(hm:m.length=0):Ob.ok prog (.app 79 79 (zH xC l) (zH xC m) (zH xC r) l.length m.length r.length 1 true):=mM u9 Tryz.underlying79 zKD rfl rfl rfl (by decide) rfl (by decide) h hm
theorem yAb{n:Nat}(h:n=0):Ob.ok prog (.same 35 35 n):=zSQ Tryz.underlying35 n7 h
theorem yAa{l m r:List Tm}(h:yR 40 l m=some r)(hm:m.length≠0):Ob.ok prog (.mk (Z8 prog 30 30 (some 3) (zH zA l) l.length none (zH zA m) m.length) (zH zA r) r.length):=zPq sY Tryz.underlying30 iK rfl rfl rfl (by decide) rfl (by decide) h hm
theorem zKE:prog.info? 108=some Tryz.t108:=by kernel_rfl
theorem zPi{l m r:List zQ}(h:yR 32 l m=some r)(hm:m.length≠0):Ob.ok prog (.app 104 104 (zH zI l) (zH zI m) (zH zI r) l.length m.length r.length 3 false):=tB nK Tryz.underlying104 zKE rfl rfl rfl (by decide) rfl (by decide) h hm
theorem n8{l m r:List yF}(h:yR 192 l m=some r)(hm:m.length≠0):Ob.ok prog (.app 23 23 (zH zV l) (zH zV m) (zH zV r) l.length m.length r.length 15 false):=tB A1 Tryz.underlying23 eC rfl rfl rfl (by decide) rfl (by decide) h hm
theorem zKF:prog.info? 259=some Tryz.t259:=by kernel_rfl
theorem zXI{l m r:List tT}(h:yR 56 l m=some r)(hm:m.length≠0):Ob.ok prog (.app 231 231 (zH gU l) (zH gU m) (zH gU r) l.length m.length r.length 3 false):=tB zDC Tryz.underlying231 zKF rfl rfl rfl (by decide) rfl (by decide) h hm
theorem zDM{l m r:List U8}(h:yR 1 l m=some r)(hm:m.length≠0):Ob.ok prog (.app 280 280 (zH kT l) (zH kT m) (zH kT r) l.length m.length r.length 1 false):=tB A0 Tryz.underlying280 zBZ rfl rfl rfl (by decide) rfl (by decide) h hm
theorem xY{l m r:List Tm}(h:yR 40 l m=some r)(hm:m.length≠0):Ob.ok prog (.app 30 30 (zH zA l) (zH zA m) (zH zA r) l.length m.length r.length 3 false):=tB sY Tryz.underlying30 iK rfl rfl rfl (by decide) rfl (by decide) h hm
theorem tY{l m r:List Int}(h:yR 8 l m=some r)(hm:m.length≠0):Ob.ok prog (.app 35 35 (zH zW l) (zH zW m) (zH zW r) l.length m.length r.length 1 false):=tB kL Tryz.underlying35 n7 rfl rfl rfl (by decide) rfl (by decide) h hm
theorem zPh:prog.info? 60=some Tryz.t60:=by kernel_rfl
theorem yAA{l m r:List xD}(h:yR 168 l m=some r)(hm:m.length≠0):Ob.ok prog (.app 50 50 (zH vY l) (zH vY m) (zH vY r) l.length m.length r.length 11 false):=tB kN Tryz.underlying50 zPh rfl rfl rfl (by decide) rfl (by decide) h hm
theorem zPg{l m r:List zM}(h:yR 88 l m=some r)(hm:m.length≠0):Ob.ok prog (.app 54 54 (zH zF l) (zH zF m) (zH zF r) l.length m.length r.length 7 false):=tB rF Tryz.underlying54 zDL rfl rfl rfl (by decide) rfl (by decide) h hm
theorem zPf:prog.info? 57=some Tryz.t57:=by kernel_rfl
theorem zWM{l m r:List zG}(h:yR 64 l m=some r)(hm:m.length≠0):Ob.ok prog (.app 55 55 (zH zK l) (zH zK m) (zH zK r) l.length m.length r.length 5 false):=tB pY Tryz.underlying55 zPf rfl rfl rfl (by decide) rfl (by decide) h hm
theorem zKG:prog.info? 165=some Tryz.t165:=by kernel_rfl
theorem yAB{l m r:List yO}(h:yR 104 l m=some r)(hm:m.length≠0):Ob.ok prog (.app 58 58 (zH zY l) (zH zY m) (zH zY r) l.length m.length r.length 8 false):=tB nV Tryz.underlying58 zKG rfl rfl rfl (by decide) rfl (by decide) h hm
theorem S5{l m r:List ByteArray}(h:yR 16 l m=some r)(hm:m.length≠0):Ob.ok prog (.app 79 79 (zH xC l) (zH xC m) (zH xC r) l.length m.length r.length 1 false):=tB u9 Tryz.underlying79 zKD rfl rfl rfl (by decide) rfl (by decide) h hm
theorem zXJ{l m r:List fZ}(h:yR 192 l m=some r)(hm:m.length≠0):Ob.ok prog (.app 23 23 (zH entZ l) (zH entZ m) (zH entZ r) l.length m.length r.length 15 false):=tB zDJ Tryz.underlying23 eC rfl rfl rfl (by decide) rfl (by decide) h hm
theorem zPe{l r:List U8}{bs:ByteArray}(h:yR 1 l (gbs bs)=some r)(hm:(gbs bs).length≠0):Ob.ok prog (.aps 280 9 (zH kT l) bs (zH kT r) l.length r.length 1 false):=zPp Tryz.underlying280 Tryz.underlying9 zBZ rfl rfl rfl rfl h (by rwa[iJ]at hm)
theorem zMe{l r:List U8}{bs:ByteArray}(h:yR 1 l (gbs bs)=some r)(hm:(gbs bs).length=0):Ob.ok prog (.aps 280 9 (zH kT l) bs (zH kT r) l.length r.length 1 true):=zPo Tryz.underlying280 Tryz.underlying9 zBZ rfl rfl rfl rfl h (by rwa[iJ]at hm)
theorem yAC{m r:List Int}(h:yR 8 ([]:List Int) m=some r)(hm:m.length≠0):Ob.ok prog (.mk (Z8 prog 35 35 (none) [] 0 none (zH zW m) m.length) (zH zW r) r.length):=zPr kL Tryz.underlying35 n7 rfl rfl rfl (by decide) rfl (by decide) h hm
theorem vF(l:List U8){o:qT}:kU prog 280 9 (.sl (zH kT l) l.length o)=some (at' (tN l)):=zPw Tryz.underlying280 Tryz.underlying9 Tryz.underlying5 l
theorem zPd{n:Nat}{l:List U8}{bs:ByteArray}(h:gtx n l=some bs):Ob.ok prog (.str (lR prog 280 9 (zH kT l) n) bs):=zPm Tryz.underlying280 Tryz.underlying9 Tryz.underlying5 h
theorem zWN{l:List zQ}{i:Int}{o:qT}{x:zQ}(h:zL l i=some x):xK prog 104 (.sl (zH zI l) l.length o) (ai i)=some (.ip (zI x++zH zI (l.drop (i.toNat+1)))):=by have:=jD nK (k:=.i64) Tryz.underlying104 zKE rfl h (o:=o);exact this
theorem zDN:prog.info? 233=some Tryz.t233:=by kernel_rfl
theorem yAD{l:List uA}{i:Int}{o:qT}{x:uA}(h:zL l i=some x):xK prog 183 (.sl (zH sX l) l.length o) (ai i)=some (.ip (sX x++zH sX (l.drop (i.toNat+1)))):=by have:=jD zDD (k:=.i64) Tryz.underlying183 zDN rfl h (o:=o);exact this
theorem zXK:prog.info? 23=some Tryz.t23:=by kernel_rfl
theorem zWO{l:List (List yF)}{i:Int}{o:qT}{x:List yF}(h:zL l i=some x):xK prog 229 (.sl (zH (slC zV) l) l.length o) (ai i)=some (.ip ((slC zV) x++zH (slC zV) (l.drop (i.toNat+1)))):=by have:=jD (yAe A1) (k:=.i64) Tryz.underlying229 zXK rfl h (o:=o);exact this
theorem xA{l:List yF}{i:Int}{o:qT}{x:yF}(h:zL l i=some x):xK prog 23 (.sl (zH zV l) l.length o) (ai i)=some (.ip (zV x++zH zV (l.drop (i.toNat+1)))):=by have:=jD A1 (k:=.i64) Tryz.underlying23 eC rfl h (o:=o);exact this
theorem zWP{l:List tT}{i:Int}{o:qT}{x:tT}(h:zL l i=some x):xK prog 231 (.sl (zH gU l) l.length o) (ai i)=some (.ip (gU x++zH gU (l.drop (i.toNat+1)))):=by have:=jD zDC (k:=.i64) Tryz.underlying231 zKF rfl h (o:=o);exact this
theorem yP{l:List Tm}{i:Int}{o:qT}{x:Tm}(h:zL l i=some x):xK prog 30 (.sl (zH zA l) l.length o) (ai i)=some (.ip (tmL x++zH zA (l.drop (i.toNat+1)))):=by have:=jD sY (k:=.i64) Tryz.underlying30 iK rfl h (o:=o);rw[xO]at this;exact this
theorem vQ{l:List Int}{i:Int}{o:qT}{x:Int}(h:zL l i=some x):xK prog 35 (.sl (zH zW l) l.length o) (ai i)=some (.ip (zW x++zH zW (l.drop (i.toNat+1)))):=by have:=jD kL (k:=.i64) Tryz.underlying35 n7 rfl h (o:=o);exact this
theorem yDy{l:List xD}{i:Int}{o:qT}{x:xD}(h:zL l i=some x):xK prog 50 (.sl (zH vY l) l.length o) (ai i)=some (.ip (vY x++zH vY (l.drop (i.toNat+1)))):=by have:=jD kN (k:=.i64) Tryz.underlying50 zPh rfl h (o:=o);exact this
theorem zIJ{l:List zM}{i:Int}{o:qT}{x:zM}(h:zL l i=some x):xK prog 54 (.sl (zH zF l) l.length o) (ai i)=some (.ip (zF x++zH zF (l.drop (i.toNat+1)))):=by have:=jD rF (k:=.i64) Tryz.underlying54 zDL rfl h (o:=o);exact this
theorem zFJ{l:List zG}{i:Int}{o:qT}{x:zG}(h:zL l i=some x):xK prog 55 (.sl (zH zK l) l.length o) (ai i)=some (.ip (dN x++zH zK (l.drop (i.toNat+1)))):=by have:=jD pY (k:=.i64) Tryz.underlying55 zPf rfl h (o:=o);rw[vL]at this;exact this
theorem yDx{l:List yO}{i:Int}{o:qT}{x:yO}(h:zL l i=some x):xK prog 58 (.sl (zH zY l) l.length o) (ai i)=some (.ip (zY x++zH zY (l.drop (i.toNat+1)))):=by have:=jD nV (k:=.i64) Tryz.underlying58 zKG rfl h (o:=o);exact this
theorem zIK{l:List ByteArray}{i:Int}{o:qT}{x:ByteArray}(h:zL l i=some x):xK prog 79 (.sl (zH xC l) l.length o) (ai i)=some (.ip (xC x++zH xC (l.drop (i.toNat+1)))):=by have:=jD u9 (k:=.i64) Tryz.underlying79 zKD rfl h (o:=o);exact this
theorem zFK{l:List Int}{i x:Int}(h:zL l i=some x)(hl:l.length=9):kI prog 292 (.agg (zH zW l)) (ai i)=some (ai x):=zFj (k:=.i64) Tryz.underlying292 (q:=(false,1)) (by kernel_rfl) rfl hl h
theorem zPc{l:List Int}{i x:Int}(h:zL l i=some x)(hl:l.length=11):kI prog 302 (.agg (zH zW l)) (ai i)=some (ai x):=zFj (k:=.i64) Tryz.underlying302 (q:=(false,1)) (by kernel_rfl) rfl hl h
theorem zXL{b n k c z:Nat}{i:Int}(h:fY n i=some k):xK prog 183 (.ms b 0 n c z) (ai i)=some (.mp b (k*3)):=zIE Tryz.underlying183 zDN rfl h
theorem zPb{b n k c z:Nat}{i:Int}(h:fY n i=some k):xK prog 280 (.ms b 0 n c z) (ai i)=some (.mp b (k*1)):=zIE Tryz.underlying280 zBZ rfl h
theorem zKH{b n k c z:Nat}{i:Int}(h:fY n i=some k):xK prog 30 (.ms b 0 n c z) (ai i)=some (.mp b (k*3)):=zIE Tryz.underlying30 iK rfl h
theorem n9{s:ByteArray}{i x:Int}(h:nP s i=some x):kI prog 9 (at' s) (ai i)=some (.val (.int .u8 x)):=zPy Tryz.underlying9 h
theorem yAE{l:List fZ}{i:Int}{o:qT}{x:fZ}(h:zL l i=some x):xK prog 23 (.sl (zH entZ l) l.length o) (ai i)=some (.ip (entZ x++zH entZ (l.drop (i.toNat+1)))):=by have:=jD zDJ (k:=.i64) Tryz.underlying23 eC rfl h (o:=o);exact this
theorem zKI(m:List (ByteArray×Int))(k:ByteArray):Ob.ok prog (.lk 181 (p7 m) (at' k) false (ai (nJ m k))):=yAl Tryz.underlying181 Tryz.underlying9 n7 rfl m k
theorem zPa{n:Int}{l:List uA}(h:gmk 72 (default:uA) n=some l):Ob.ok prog (.mk (qW prog 183 (ai n) (ai n)) (zH sX l) l.length):=zPu Tryz.underlying183 zDN rfl rfl rfl (by decide) rfl (by decide) (by rfl) h
theorem zXM{n:Int}{l:List U8}(h:gmk 1 (default:U8) n=some l):Ob.ok prog (.mk (qW prog 280 (ai n) (ai n)) (zH kT l) l.length):=zPu Tryz.underlying280 zBZ rfl rfl rfl (by decide) rfl (by decide) (by rfl) h
theorem zWQ(m:List (ByteArray×Int))(k:ByteArray)(v:Int):Ob.ok prog (.mu 181 (p7 m) (at' k) (ai v) (p7 (A5 m k v))):=yAk Tryz.underlying181 Tryz.underlying9 m k v
theorem zSX{l r:List Int}{a b:Int}(h:uL l a b=some r):wW prog 35 (.sl (zH zW l) l.length .no) (some (ai a)) (some (ai b)) none=some (.sl (zH zW r) r.length .no):=zOQ kL Tryz.underlying35 n7 rfl h
theorem tZ{l r:List Tm}{a:Int}(h:uL l a l.length=some r):wW prog 30 (.sl (zH zA l) l.length .no) (some (ai a)) none none=some (.sl (zH zA r) r.length .no):=zDF sY Tryz.underlying30 iK rfl h
theorem zSY{b off n c:Nat}{y:Int}{r:Nat×Nat}(h:zMi c 0 y=some r):wW prog 23 (.ms b off n c 15) none (some (ai y)) none=some (.ms b off r.2 c 15):=zPs Tryz.underlying23 eC rfl (by decide) h
theorem zXN{s r:ByteArray}{a b:Int}(h:zMk s a b=some r):wW prog 9 (at' s) (some (ai a)) (some (ai b)) none=some (at' r):=zPx Tryz.underlying9 h
theorem zDO{l r:List yF}{b:Int}(h:uL l 0 b=some r):wW prog 23 (.sl (zH zV l) l.length .no) none (some (ai b)) none=some (.sl (zH zV r) r.length .no):=t7 A1 Tryz.underlying23 eC rfl h
theorem sZ{l r:List Tm}{b:Int}(h:uL l 0 b=some r):wW prog 30 (.sl (zH zA l) l.length .no) none (some (ai b)) none=some (.sl (zH zA r) r.length .no):=t7 sY Tryz.underlying30 iK rfl h
theorem jE{l r:List Tm}{b:Int}{o:qT}(h:uL l 0 b=some r):wW prog 30 (.sl (zH zA l) l.length o) none (some (ai b)) (some (ai b))=some (.sl (zH zA r) r.length .full):=S0 sY Tryz.underlying30 iK rfl h
theorem zPA{l r:List ByteArray}{b:Int}{o:qT}(h:uL l 0 b=some r):wW prog 79 (.sl (zH xC l) l.length o) none (some (ai b)) (some (ai b))=some (.sl (zH xC r) r.length .full):=S0 u9 Tryz.underlying79 zKD rfl h
theorem zKJ{l r:List Tm}{b:Int}{o:qT}(h:uL l 0 b=some r):∃a0,wW prog 30 (.sl (zH zA l) l.length o) none (some (ai b)) none=some a0/\a0.frz=.sl (zH zA r) r.length .no:=zFh sY Tryz.underlying30 iK rfl h
theorem zSZ{n:Int}{l:List yF}(hp:n>0)(h:gmk 192 (default:yF) n=some l):Ob.ok prog (.mk (w7 prog 23 3 (ai n)) (zH zV l) l.length):=yAh Tryz.underlying3 hp (zPu Tryz.underlying23 eC rfl rfl rfl (by decide) rfl (by decide) (by rfl) h)
def ptG:Nat->Nat->Func->Code|0,_,f=>sV f|k+1,n,f=>if n=0 then sV f else if n%4=1 then inn (ptG k (n/4) f)else if n%4=2 then fS (ptG k (n/4) f)else rR (ptG k (n/4) f)
abbrev pt:=ptG 99
abbrev Oz:=OL prog
abbrev dL:=Dl prog
abbrev fQ:=wS prog
abbrev nQ:=aA prog
abbrev qB(q0:List yF)(m:Nat)(q3 q4:List Int):yK:=.cells [zC zV q0 .no,.mp m 0,zC zW q3 .no,zC zW q4 .no]
abbrev qR(q1:List yF)(q2:List uA):yK:=.cells [zC zV q1 .no,zC sX q2 .no]
theorem oDm{os:List nS}{ob:List Ob}(q0 q1:List yF)(q2:List uA)(q3 q4:List Int)(k:Oz os ob):Oz os (.data (zH sX q2)::.data (zH zV q1)::.data (zH zW q4)::.data (zH zW q3)::.data (zH zV q0)::ob):=oD (dC q2)<|oD (dE q1)<|oD (dI q4)<|oD (dI q3)<|oD (dE q0) k
theorem oDM{os:List nS}{ob:List Ob}(M:xT)(k:Oz os ob):Oz os (.data (zH sX M.parts)::.data (zH zV M.rl)::.data (zH zW M.own)::.data (zH zW M.args)::.data (zH zV M.l)::ob):=oDm M.l M.rl M.parts M.args M.own k
theorem fMa{n m:Nat}{q0 q1:List yF}{q2:List uA}{q3 q4:List Int}{l:List yK}(h:m<n)(k:∀X∈l,X.arg (λi=>i<n)):∀X∈qB q0 m q3 q4::qR q1 q2::l,X.arg (λi=>i<n):=wI ⟨⟨tv,dE _⟩,h,⟨tv,dI _⟩,⟨tv,dI _⟩,tv⟩ (wI ⟨⟨tv,dE _⟩,⟨tv,dC _⟩,tv⟩ k)
theorem fMf{n m:Nat}{q0 q1:List yF}{q2:List uA}{q3 q4:List Int}{l:List yK}(h:m<n)(k:∀X∈l,X.fine (λi=>i<n)):∀X∈qB q0 m q3 q4::qR q1 q2::l,X.fine (λi=>i<n):=wI ⟨dE _,h,dI _,dI _,tv⟩ (wI ⟨dE _,dC _,tv⟩ k)
abbrev yI:=List Tm
abbrev yH:=List Int
abbrev yD:=List yF
abbrev tC:=List uA
mutual def zMd:Nat->Tm->Int->Option (Int)|0,_,_=>none|c+1,a,d=>dP c a (yB (d+1)) 0 def dP:Nat->Tm->Int->Int->Option (Int)
 |0,_,_,_=>none|c+1,a,e,b=>if decide (b<(a.sub.length:Int))then zL a.sub b>>=λx2=>if decide (e>8192)then some e else zMd c x2 e>>=λr5=>dP c a r5 (yB (b+1))else some e end
theorem zFL:∀c:Nat,(∀a d,Cz (zMd c a d) 297 [] [yL a,ai d] (λr=>ai r) (λ_=>[]) 0)/\(∀a e b,Lz (dP c a e b) 0 f297 (pt 4021 f297) (λj=>sp j 23 0 [(1,ai e),(10,zC zA a.sub .no),(11,ai (a.sub.length:Int)),(12,ai b)]) ⟨[],0,[],0,[]⟩ (λr=>ai r) (λ_=>[]) 0 [.blk 0,.seq (pt 63 f297)]):=yS ⟨λ_ _=>cN,λ_ _ _=>lN⟩ λc ih=>⟨λa d=>fw func297<|fH 3 [] [] [] [1,10,11,12] (ih.2 _ _ _),λa e b=>lw λ_=>rB 0 (rA 0 (yP (o:=.no)) λ_=>rB 2 (lE 0)<|rC 1 [] (ih.1 _ _) λ_=>lH 1 [] [] [] [1,10,11,12] (ih.2 _ _ _))<|lE 0⟩
theorem yDw{c a d}:Cz (zMd c a d) 297 [] [yL a,ai d] (λr=>ai r) (λ_=>[]) 0:=(zFL _).1 _ _
def zPB(b:Nat)(a:Tm):Option (Int):=zMd b a 0>>=λr1=>some r1
theorem yAF{b a}:Cz (zPB b a) 257 [] [yL a] (λr=>ai r) (λ_=>[]) 0:=fw func257<|rC 1 [] yDw λ_=>fE 0
mutual def zMc:Nat->Tm->Int->Option (Int)
 |0,_,_=>none|d+1,b,a=>if decide (a>128)then some a else dQ d b a 0 a def dQ:Nat->Tm->Int->Int->Int->Option (Int)
 |0,_,_,_,_=>none|d+1,b,a,c,e=>if decide (c<(b.sub.length:Int))then zL b.sub c>>=λx3=>zMc d x3 (yB (a+1))>>=λr5=>dQ d b a (yB (c+1)) (nI e r5)else some e end
theorem zFM:∀d:Nat,(∀b a,Cz (zMc d b a) 258 [] [yL b,ai a] (λr=>ai r) (λ_=>[]) 0)/\(∀b a c e,Lz (dQ d b a c e) 0 f258 (pt 16309 f258) (λj=>sp j 27 0 [(1,ai a),(5,ai e),(13,zC zA b.sub .no),(14,ai (b.sub.length:Int)),(15,ai c)]) ⟨[],0,[],0,[]⟩ (λr=>ai r) (λ_=>[]) 0 [.blk 0,.seq (pt 255 f258)]):=yS ⟨λ_ _=>cN,λ_ _ _ _=>lN⟩ λd ih=>⟨λb a=>fw func258<|rB 0 (fE 0)<|fH 2 [] [] [] [1,5,13,14,15] (ih.2 _ _ _ _),λb a c e=>lw λ_=>rB 0 (rA 0 (yP (o:=.no)) λ_=>rC 4 [] (ih.1 _ _) λ_=>lH 2 [] [] [] [1,5,13,14,15] (ih.2 _ _ _ _))<|lE 0⟩
theorem yDv{d b a}:Cz (zMc d b a) 258 [] [yL b,ai a] (λr=>ai r) (λ_=>[]) 0:=(zFM _).1 _ _
def zTz(b:Nat)(a:Tm):Option (Int):=zPB b a>>=λr1=>if decide (r1>8192)then some 129 else zMc b a 1>>=λr4=>some r4
theorem yDu{b a}:Cz (zTz b a) 210 [] [yL a] (λr=>ai r) (λ_=>[]) 0:=fw func210<|rC 1 [] yAF λ_=>rB 0 (fE 0)<|rC 1 [] yDv λ_=>fE 0
def zTy(b:Nat)(a:Tm):Option (Bool):=if decide (a.k<1)then some false else if decide (a.k>8)then some false else zL ([0,0,0,2,2,2,0,1,0]:yH) a.k>>=λx3=>zL ([0,1048576,7,0,0,0,1048576,1048576,1048576]:yH) a.k>>=λx5=>if(a.sub.length:Int)==x3 then if decide (a.n>=0)then if decide (a.n<=x5)then if a.k !=7 then some true else zL a.sub 0>>=λx11=>some (x11.k==2)else some false else some false else some false
theorem yDt{b a}:Cz (zTy b a) 259 [] [yL a] (λr=>ab r) (λ_=>[]) 0:=fw func259<|rB 1 (fE 0)<|rB 1 (fE 0)<|rW (λh4=>oA 1 (zFK h4 rfl)) λ_=>rW (λh6=>oA 1 (zFK h6 rfl)) λ_=>rB 2 (rB 1 (rB 1 (rB 1 (fE 0)<|rA 1 (yP (o:=.no)) λ_=>fE 2)<|fE 0)<|fE 0)<|fE 0
mutual def zMb:Nat->Tm->Option (Bool)
 |0,_=>none|c+1,a=>zTy c a>>=λr1=>if r1 then dS c a 0 else some false def dS:Nat->Tm->Int->Option (Bool)
 |0,_,_=>none|c+1,a,b=>if decide (b<(a.sub.length:Int))then zL a.sub b>>=λx5=>zMb c x5>>=λr7=>if r7 then dS c a (yB (b+1))else some false else some true end
theorem zFN:∀c:Nat,(∀a,Cz (zMb c a) 211 [] [yL a] (λr=>ab r) (λ_=>[]) 0)/\(∀a b,Lz (dS c a b) 0 f211 (pt 4021 f211) (λj=>sp j 19 0 [(9,zC zA a.sub .no),(10,ai (a.sub.length:Int)),(11,ai b)]) ⟨[],0,[],0,[]⟩ (λr=>ab r) (λ_=>[]) 0 [.blk 0,.seq (pt 63 f211)]):=yS ⟨λ_=>cN,λ_ _=>lN⟩ λc ih=>⟨λa=>fw func211<|rK 1 [] yDt (λ_=>fH 3 [] [] [] [9,10,11] (ih.2 _ _)) λ_=>fE 1,λa b=>lw λ_=>rB 0 (rA 0 (yP (o:=.no)) λ_=>rK 3 [] (ih.1 _) (λ_=>lH 2 [] [] [] [9,10,11] (ih.2 _ _)) λ_=>lE 1)<|lE 0⟩
theorem yDs{c a}:Cz (zMb c a) 211 [] [yL a] (λr=>ab r) (λ_=>[]) 0:=(zFN _).1 _
def rJ(b:Nat)(a:Tm):Option (Bool):=zTz b a>>=λr1=>if decide (r1<=128)then zMb b a>>=λr4=>some r4 else some false
theorem qQ{b a}:Cz (rJ b a) 158 [] [yL a] (λr=>ab r) (λ_=>[]) 0:=fw func158<|rC 1 [] yDu λ_=>rB 0 (rC 1 [] yDs λ_=>fE 0)<|fE 0
mutual theorem zKK:∀(t:Tm)(h:Int),t.Ok->0<=h->h<=8192->zB (λq=>zMd q t h) (szT t h)|.mk k n l,h,ho,h0,h1=>by refine zB.succ ?_;simp only[zMd];rw[zR (by omega) (by omega),szT];exact zFO l (.mk k n l) 0 (h+1) rfl ho.1 ho.2 (by omega) (by omega)theorem zFO:∀(l:List Tm)(p:Tm)(v:Nat)(h:Int),p.sub.drop v=l->p.sub.length<9223372036854775808->gV l->0<=h->h<=8193->zB (λq=>dP q p h (v:Int)) (szL l h)
 |[],p,v,h,hd,hl,ho,h0,h1=>by refine zB.succ ?_;simp only[dP];rw[szL];exact zB.ifF (zZ hd) zB.ret|t::l,p,v,h,hd,hl,ho,h0,h1=>by
  refine zB.succ ?_;simp only[dP];refine zB.ifT (zX hd) (zB.pure (zU hd) ?_);rw[szL];by_cases h2:h>8192;·rw[if_pos h2];exact zB.ifT (by simpa using h2) zB.ret
  ·rw[if_neg h2];refine zB.ifF (by simpa using h2) ((zKK t h ho.1 h0 (by omega)).bind ?_);rw[zS v (by have:=yC hd;omega)];have:=zFf t h h0 (by omega);exact zFO l p (v+1) (szT t h) (zP hd) hl ho.2 (by omega) (by omega)end
theorem zKL(t:Tm)(ho:t.Ok):zB (λq=>zPB q t) (szT t 0):=by simp only[zPB];exact(zKK t 0 ho (by omega) (by omega)).bind zB.ret
mutual theorem zKM:∀(t:Tm)(a:Int),t.Ok->0<=a->a<=129->zB (λq=>zMc q t a) (dpT t a)
 |.mk k n l,a,ho,h0,h1=>by
  refine zB.succ ?_;simp only[zMc];rw[dpT];by_cases h2:a>128;·rw[if_pos h2];exact zB.ifT (by simpa using h2) zB.ret
  ·rw[if_neg h2];exact zB.ifF (by simpa using h2) (zFP l (.mk k n l) 0 a a rfl ho.1 ho.2 h0 (by omega))theorem zFP:∀(l:List Tm)(p:Tm)(v:Nat)(a m:Int),p.sub.drop v=l->p.sub.length<9223372036854775808->gV l->0<=a->a<=128->zB (λq=>dQ q p a (v:Int) m) (dpL l a m)|[],p,v,a,m,hd,hl,ho,h0,h1=>by refine zB.succ ?_;simp only[dQ];rw[dpL];exact zB.ifF (zZ hd) zB.ret|t::l,p,v,a,m,hd,hl,ho,h0,h1=>by refine zB.succ ?_;simp only[dQ];refine zB.ifT (zX hd) (zB.pure (zU hd) ?_);rw[dpL,zR (x:=a+1) (by omega) (by omega)];refine(zKM t (a+1) ho.1 (by omega) (by omega)).bind ?_;rw[zS v (by have:=yC hd;omega)];exact zFP l p (v+1) a _ (zP hd) hl ho.2 h0 h1 end
def zPC(t:Tm):Int:=if szT t 0>8192 then 129 else dpT t 1
theorem zPD(t:Tm)(ho:t.Ok):zB (λq=>zTz q t) (zPC t):=by
 simp only[zTz];refine(zKL t ho).bind ?_;unfold zPC;by_cases h:szT t 0>8192;·rw[if_pos h];exact zB.ifT (by simpa using h) zB.ret
 ·rw[if_neg h];exact zB.ifF (by simpa using h) ((zKM t 1 ho (by omega) (by omega)).bind zB.ret)
theorem zTx(t:Tm):zPC t<=128↔t.nodes<=8192/\t.high<=128:=by
 have h1:=zOR t 0 (by omega) (by omega);have h2:=zOT t 1 (by omega) (by omega);unfold zPC;by_cases h3:t.nodes<=8192
 ·rw[if_neg (by rw[h1.1 (by omega)];omega)];by_cases h4:t.high<=128;·rw[h2.1 (by omega)];omega
  ·rw[h2.2 (by omega)];omega
 ·rw[if_pos (by rw[h1.2 (by omega)];omega)];omega
theorem zTw(t:Tm):zB (λq=>zTy q t) (tX t):=by
 refine zB.mk λq=>?_;unfold zTy tX;generalize t.k=k;generalize t.n=n;generalize t.sub=l;by_cases h1:k<1;·rw[zXF (decide_eq_true h1)];simp;omega
 ·by_cases h2:k>8;·rw[zSS (decide_eq_false h1),zXF (decide_eq_true h2)];simp;omega
  ·rw[zSS (decide_eq_false h1),zSS (decide_eq_false h2)];have:k=1\/k=2\/k=3\/k=4\/k=5\/k=6\/k=7\/k=8:=by omega
   rcases this with rfl|rfl|rfl|rfl|rfl|rfl|rfl|rfl;case inr.inr.inr.inr.inr.inr.inl=>rcases l with _|⟨x,_|⟨y,l⟩⟩<;>simp[zL]<;>grind
   case inr.inr.inl|inr.inr.inr.inl|inr.inr.inr.inr.inl=>
    by_cases hl:l.length=2;·simp[zL,hl];grind
    ·have h':¬((l.length:Int)=2):=by omega
     simp[zL,hl,h']
   all_goals(simp[zL];grind)
mutual theorem zKN:∀(t:Tm),t.Ok->zB (λq=>zMb q t) (xF t)|.mk k n l,ho=>by refine zB.succ ?_;simp only[zMb];refine(zTw (.mk k n l)).bind ?_;rw[xF];cases tX (.mk k n l)with|false=>exact zB.ifF rfl zB.ret|true=>exact zB.ifT rfl (zFQ l (.mk k n l) 0 rfl ho.1 ho.2)theorem zFQ:∀(l:List Tm)(p:Tm)(v:Nat),p.sub.drop v=l->p.sub.length<9223372036854775808->gV l->zB (λq=>dS q p (v:Int)) (wR l)|[],p,v,hd,hl,ho=>by refine zB.succ ?_;simp only[dS];rw[wR];exact zB.ifF (zZ hd) zB.ret|t::l,p,v,hd,hl,ho=>by refine zB.succ ?_;simp only[dS];refine zB.ifT (zX hd) (zB.pure (zU hd) ((zKN t ho.1).bind ?_));rw[wR];cases xF t with|false=>exact zB.ifF rfl zB.ret|true=>refine zB.ifT rfl ?_;rw[zS v (by have:=yC hd;omega)];exact zFQ l p (v+1) (zP hd) hl ho.2 end
theorem xI(t:Tm)(ho:t.Ok):zB (λq=>rJ q t) (zJ t):=by
 simp only[rJ];refine(zPD t ho).bind ?_;have h:=zTx t;unfold zJ;by_cases h1:zPC t<=128
 ·refine zB.ifT (by simpa using h1) (((zKN t ho).bind zB.ret).eq ?_);have:=h.1 h1;simp[this.1,this.2]
 ·refine zB.ifF (by simpa using h1) (zB.ret.eq ?_);by_cases h2:t.nodes<=8192
  ·by_cases h3:t.high<=128;·exact absurd (h.2 ⟨h2,h3⟩) h1
   ·simp[h3]
  ·simp[h2]
def zPE(c:Nat)(a:Tm)(b:Int):Option (Int):=if b==1 then if a.k==3 then some 1 else if a.k==4 then some 1 else some 0 else some 0
theorem yAG{c a b}:Cz (zPE c a b) 249 [] [yL a,ai b] (λr=>ai r) (λ_=>[]) 0:=fw func249<|rB 0 (rB 1 (fE 0)<|rB 1 (fE 0)<|fE 0)<|fE 0
mutual def zMa:Nat->Tm->Int->Option (Int)|0,_,_=>none|d+1,a,c=>if a.k==1 then some (nI 0 (yB ((yB (a.n+1))-c)))else dU d a c 0 0 def dU:Nat->Tm->Int->Int->Int->Option (Int)|0,_,_,_,_=>none|d+1,a,c,b,e=>if decide (b<(a.sub.length:Int))then zL a.sub b>>=λx3=>zPE d a b>>=λr5=>zMa d x3 (yB (c+r5))>>=λr7=>dU d a c (yB (b+1)) (nI e r7)else some e end
theorem zFR:∀d:Nat,(∀a c,Cz (zMa d a c) 194 [] [yL a,ai c] (λr=>ai r) (λ_=>[]) 0)/\(∀a c b e,Lz (dU d a c b e) 0 f194 (pt 16309 f194) (λj=>sp j 36 0 [(1,ai c),(2,.mp 0 0),(5,ai e),(18,zC zA a.sub .no),(19,ai (a.sub.length:Int)),(20,ai b)]) ⟨[(0,.cells [ai a.k,ai a.n,zC zA a.sub .no])],1,[],0,[]⟩ (λr=>ai r) (λ_=>[]) 0 [.blk 0,.seq (pt 255 f194)]):=yS ⟨λ_ _=>cN,λ_ _ _ _=>lN⟩ λd ih=>⟨λa c=>fw func194<|rB 1 (fE 4)<|fH 2 [] [0] [] [1,2,5,18,19,20] (ih.2 _ _ _ _),λa c b e=>lw λ_=>rB 0 (rA 0 (yP (o:=.no)) λ_=>rC 4 [] yAG λ_=>rC 1 [] (ih.1 _ _) λ_=>lH 2 [] [0] [] [1,2,5,18,19,20] (ih.2 _ _ _ _))<|lE 0⟩
theorem yDr{d a c}:Cz (zMa d a c) 194 [] [yL a,ai c] (λr=>ai r) (λ_=>[]) 0:=(zFR _).1 _ _
mutual def zIL:Nat->Tm->Int->Int->Option yH|0,_,_,_=>none|e+1,a,b,c=>if a.k==b then yR 8 ([]:yH) [a.n]>>=λl2=>nW e a b c 0 l2 else if a.k==c then yR 8 ([]:yH) [a.n]>>=λl5=>nW e a b c 0 l5 else nW e a b c 0 []def nW:Nat->Tm->Int->Int->Int->yH->Option yH|0,_,_,_,_,_=>none|e+1,a,b,c,d,f=>if decide (d<(a.sub.length:Int))then zL a.sub d>>=λx5=>zIL e x5 b c>>=λr7=>yR 8 f r7>>=λl9=>nW e a b c (yB (d+1)) l9 else some f end
theorem zFS:∀e:Nat,(∀a b c,Cz (zIL e a b c) 251 [] [yL a,ai b,ai c] (λr=>zC zW r (.st 0 1)) (λ_=>[]) 1)/\(∀a b c d f,Lz (nW e a b c d f) 0 f251 (pt 16309 f251) (λj=>sp j 40 0 [(1,ai b),(2,ai c),(7,zC zW f (.st 0 1)),(26,zC zA a.sub .no),(27,ai (a.sub.length:Int)),(28,ai d)]) ⟨[],0,[0],1,[]⟩ (λr=>zC zW r (.st 0 1)) (λ_=>[]) 1 [.blk 0,.seq (pt 255 f251)]/\Lz (nW e a b c d f) 0 f251 (pt 16309 f251) (λj=>sp j 40 0 [(1,ai b),(2,ai c),(7,zC zW f .nl),(26,zC zA a.sub .no),(27,ai (a.sub.length:Int)),(28,ai d)]) ⟨[],0,[],0,[]⟩ (λr=>zC zW r (.st 0 1)) (λ_=>[]) 1 [.blk 0,.seq (pt 255 f251)]):=yS ⟨λ_ _ _=>cN,λ_ _ _ _ _=>⟨lN,lN⟩⟩ λe ih=>⟨λa b c=>fw func251<|rB 1 (rW (λh3=>oP 2 (tY h3 (by simp))) λ_=>fH 2 [] [] [0] [1,2,7,26,27,28] ((ih.2 _ _ _ _ _).1))<|rB 1 (rW (λh6=>oP 2 (tY h6 (by simp))) λ_=>fH 2 [] [] [0] [1,2,7,26,27,28] ((ih.2 _ _ _ _ _).1))<|fH 2 [] [] [] [1,2,7,26,27,28] ((ih.2 _ _ _ _ _).2),λa b c d f=>⟨lw λ_=>rB 0 (rA 0 (yP (o:=.no)) λ_=>rC 3 [] (ih.1 _ _ _) λr7=>rH λ_ h10=>rZ (List.length r7=0) (λh11=>rS (oP 0 (zPj h10 h11))<|lH 1 [] [] [0] [1,2,7,26,27,28] ((ih.2 _ _ _ _ _).1)) λh11=>rS (oP 0 (tY h10 h11))<|lH 1 [] [] [2] [1,2,7,26,27,28] ((ih.2 _ _ _ _ _).1))<|lG 0 [] [] [0] true,lw λ_=>rB 0 (rA 0 (yP (o:=.no)) λ_=>rC 3 [] (ih.1 _ _ _) λr7=>rH λ_ h10=>rZ (List.length r7=0) (λh11=>rS (oP 0 (zPj h10 h11))<|lH 1 [] [] [] [1,2,7,26,27,28] ((ih.2 _ _ _ _ _).2)) λh11=>rS (oP 0 (tY h10 h11))<|lH 1 [] [] [1] [1,2,7,26,27,28] ((ih.2 _ _ _ _ _).1))<|lG 0 [(none,6,1)] [] [0] true⟩⟩
theorem yAH{e a b c}:Cz (zIL e a b c) 251 [] [yL a,ai b,ai c] (λr=>zC zW r (.st 0 1)) (λ_=>[]) 1:=(zFS _).1 _ _ _
def zMA(c:Nat)(a:Tm):Option yH:=(rJ c a)>>=λr1=>if r1=true then(zIL c a 6 7)>>=λr4=>if decide (List.length r4<4611686018427387904)=true then some (wX r4)else none else some []
theorem yAI{c:Nat}{a:Tm}{r:yH}(h:zMA c a=some r):CT prog 195 [] [yL a] (.sl (zH zW r) r.length .no) [] 0:=by
 unfold zMA at h;obtain⟨r1,h2,h⟩:=sS h;rcases zDK r1 with h3|h3
 ·replace h:=ifT h3 h;obtain⟨l,h5,h⟩:=sS h;rcases zDK (decide (List.length l<4611686018427387904))with h6|h6
  ·replace h:=ifT h6 h;replace h:=Option.some.inj h;subst h;subst h3;have hsz:List.length l<4611686018427387904:=by simpa using h6
   refine⟨?_,⟨⟨trivial,trivial,⟨trivial,dT _⟩,trivial⟩,trivial⟩,(λ_ h=>nomatch h),dI _,(λ_ h=>nomatch h)⟩;have k0:knd (sV f195)=1:=by kernel_rfl
   have k1:knd (rR (sV f195))=1:=by kernel_rfl
   have k2:knd (rR (rR (sV f195)))=1:=by kernel_rfl
   have k3:s6 (fS (rR (rR (sV f195))))=true:=by kernel_rfl
   have k4:zID (vV (fS (rR (rR (sV f195)))))[2]?=some (some 8,250,#[.tmp 7]):=by kernel_rfl
   have k5:(f250.name=="runtime.NumGoroutine")=false:=by kernel_rfl
   have k6:f250.body.isNone=false:=by kernel_rfl
   have x1:pE prog nU 3000 (.run (fS (sV f195))) [] ([yL a]++List.replicate (f195.ntmps-1) (.val undef)) (V1 []) []=some (.fin .normal,[yL a,.mp 0 0,.sl [] 0 .nl,.val undef,.val undef,.val undef,.val undef,.val undef,.val undef],⟨[(0,.cells (tmL a))],1,[],0,[]⟩,[],[]):=by kernel_rfl
   have x2:pE prog nU 3000 (.run (fS (rR (sV f195)))) [] [yL a,.mp 0 0,.sl [] 0 .nl,.val undef,.val undef,.val undef,.val undef,.val undef,.val undef] ⟨[(0,.cells (tmL a))],1,[],0,[]⟩ [.no,.call [] [] 0 (ab true) (some true),.no]=some (.fin .normal,[yL a,.mp 0 0,.sl [] 0 .nl,yL a,ab true,ab false,.val undef,.val undef,.val undef],⟨[(0,.cells (tmL a))],1,[],0,[]⟩,[],[.bit true true,.call 158 [] [yL a] (ab true) [] 0]):=by kernel_rfl
   have x3:(V2 prog nU (vV (fS (rR (rR (sV f195))))) ((vV (fS (rR (rR (sV f195))))).toList.take 2) 0 [yL a,.mp 0 0,.sl [] 0 .nl,yL a,ab true,ab false,.val undef,.val undef,.val undef] ⟨[(0,.cells (tmL a))],1,[],0,[]⟩ [.no,.call [] [] 1 (.sl (zH zW l) l.length (.st 0 1)) none]).map Prod.snd=some ([yL a,.mp 0 0,.sl [] 0 .nl,yL a,ab true,ab false,yL a,.sl (zH zW l) l.length (.st 0 1),.val undef],⟨[(0,.cells (tmL a))],1,[0],1,[]⟩,[],[.call 251 [] [yL a,ai 6,ai 7] (.sl (zH zW l) l.length (.st 0 1)) [] 1]):=by kernel_rfl
   have x4:∀j:Nat->Value,(V2 prog nU (vV (fS (rR (rR (sV f195))))) ((vV (fS (rR (rR (sV f195))))).toList.drop 3) 3 (eset (tells [] (mutEnv [] j [yL a,.mp 0 0,.sl [] 0 .nl,yL a,ab true,ab false,yL a,.sl (zH zW l) l.length (.st 0 1),.val undef] 0)) (some 8) (.sl (zH zW (wX l)) (wX l).length .no)) (kM [] ⟨[(0,.cells (tmL a))],1,[0],1,[]⟩) []).map Prod.snd=some ([.val (j 0),.val (j 1),.sl (zH zW (wX l)) (wX l).length .no,.val (j 3),ab true,ab false,.val (j 6),.val (j 7),.sl (zH zW (wX l)) (wX l).length .no],⟨[],1,[],0,[]⟩,[],[]):=λj=>by kernel_rfl
   have x5:∀j:Nat->Value,zBk prog nU 0 f195 3000 (.run (rR (rR (rR (sV f195))))) [] [.val (j 0),.val (j 1),.sl (zH zW (wX l)) (wX l).length .no,.val (j 3),ab true,ab false,.val (j 6),.val (j 7),.sl (zH zW (wX l)) (wX l).length .no] ⟨[],1,[],0,[]⟩ [] [] [] [] false=some (.sl (zH zW (wX l)) (wX l).length .no,[],[.data (zH zW (wX l))]):=λj=>by kernel_rfl
   refine uH.body func195 (by kernel_rfl) ?_;refine Dv.seqP k0 ?_;refine lS (Q:=_) wN mixed 3000 (.run (fS (sV f195))) [] _ _ _ _ _ _ _ _ x1 yU.nil ?_;refine Dv.seqP k1 ?_;refine lS (Q:=_) wN mixed 3000 (.run (fS (rR (sV f195)))) [] _ _ _ _ _ _ _ _ x2 (yU.cons (zKb rfl) (yU.cons (M8 (qQ _ h2)) yU.nil)) ?_;refine Dv.seqP k2 ?_;obtain⟨id,k7⟩:=yAn k3;rw[k7];refine Dv.mut wN (na:=(0:Nat)) rfl 2 [] [] _ x3 (yU.cons (M8 (yAH _ h5)) yU.nil) k4 func250 k5 k6 (λi X h=>by cases h) ?_ x4 yU.nil ?_;·intro G0 W hB G w hE hR u hu;refine(zBT hR (by rfl) hsz hu).mono ?_;rintro e w'⟨v,b,S,z1,z2,z3,z4,z5,z6⟩;exact⟨v,b,S,z1,z2,z3,z4,z5,λG' _ _ hS=>⟨z6 G' hS,λq hq=>by cases hq⟩⟩
   ·intro j;exact X1 (na:=(0:Nat)) wN mixed (x5 j) (yU.cons (t8 (dI _)) yU.nil) (by decide)
  ·replace h:=ifF h6 h;cases h
 ·replace h:=ifF h3 h;replace h:=Option.some.inj h;subst h;exact⟨uH.toFin wN mixed func195 (by kernel_rfl) 3000 [.no,.call [] [] 0 (ab r1) (some false),.no] [] [] [] false (by kernel_rfl) (yU.cons (zKb h3) (yU.cons (M8 (qQ _ h2)) (yU.cons (t8 (dI ([]:yH))) yU.nil))) (by decide),⟨⟨trivial,trivial,⟨trivial,dT _⟩,trivial⟩,trivial⟩,(λ_ h=>nomatch h),dI _,(λ_ h=>nomatch h)⟩
theorem yDq{c:Nat}{a:Tm}:Cz (zMA c a) 195 [] [yL a] (λr=>.sl (zH zW r) r.length .no) (λ_=>[]) 0:=λ_ h=>yAI h
def m8(b:Nat)(a:Tm)(c d:Int):Option (Bool):=rJ b a>>=λr1=>if r1 then zMa b a 0>>=λr4=>if decide (r4>c)then some false else zMA b a>>=λr7=>if(r7.length:Int)==0 then some true else zL r7 (yB ((r7.length:Int)-1))>>=λx10=>some (decide (x10<d))else some false
theorem zIM{b a c d}:Cz (m8 b a c d) 136 [] [yL a,ai c,ai d] (λr=>ab r) (λ_=>[]) 0:=fw func136<|rK 1 [] qQ (λ_=>rC 2 [] yDr λ_=>rB 0 (fE 0)<|rC 1 [] yDq λ_=>rB 1 (fE 0)<|rA 2 (vQ (o:=.no)) λ_=>fE 2) λ_=>fE 1
def zMB(c:Nat)(a:Tm):Option yH:=(rJ c a)>>=λr1=>if r1=true then(zIL c a 8 8)>>=λr4=>if decide (List.length r4<4611686018427387904)=true then some (wX r4)else none else some []
theorem yAJ{c:Nat}{a:Tm}{r:yH}(h:zMB c a=some r):CT prog 204 [] [yL a] (.sl (zH zW r) r.length .no) [] 0:=by
 unfold zMB at h;obtain⟨r1,h2,h⟩:=sS h;rcases zDK r1 with h3|h3
 ·replace h:=ifT h3 h;obtain⟨l,h5,h⟩:=sS h;rcases zDK (decide (List.length l<4611686018427387904))with h6|h6
  ·replace h:=ifT h6 h;replace h:=Option.some.inj h;subst h;subst h3;have hsz:List.length l<4611686018427387904:=by simpa using h6
   refine⟨?_,⟨⟨trivial,trivial,⟨trivial,dT _⟩,trivial⟩,trivial⟩,(λ_ h=>nomatch h),dI _,(λ_ h=>nomatch h)⟩;have k0:knd (sV f204)=1:=by kernel_rfl
   have k1:knd (rR (sV f204))=1:=by kernel_rfl
   have k2:knd (rR (rR (sV f204)))=1:=by kernel_rfl
   have k3:s6 (fS (rR (rR (sV f204))))=true:=by kernel_rfl
   have k4:zID (vV (fS (rR (rR (sV f204)))))[2]?=some (some 8,250,#[.tmp 7]):=by kernel_rfl
   have k5:(f250.name=="runtime.NumGoroutine")=false:=by kernel_rfl
   have k6:f250.body.isNone=false:=by kernel_rfl
   have x1:pE prog nU 3000 (.run (fS (sV f204))) [] ([yL a]++List.replicate (f204.ntmps-1) (.val undef)) (V1 []) []=some (.fin .normal,[yL a,.mp 0 0,.sl [] 0 .nl,.val undef,.val undef,.val undef,.val undef,.val undef,.val undef],⟨[(0,.cells (tmL a))],1,[],0,[]⟩,[],[]):=by kernel_rfl
   have x2:pE prog nU 3000 (.run (fS (rR (sV f204)))) [] [yL a,.mp 0 0,.sl [] 0 .nl,.val undef,.val undef,.val undef,.val undef,.val undef,.val undef] ⟨[(0,.cells (tmL a))],1,[],0,[]⟩ [.no,.call [] [] 0 (ab true) (some true),.no]=some (.fin .normal,[yL a,.mp 0 0,.sl [] 0 .nl,yL a,ab true,ab false,.val undef,.val undef,.val undef],⟨[(0,.cells (tmL a))],1,[],0,[]⟩,[],[.bit true true,.call 158 [] [yL a] (ab true) [] 0]):=by kernel_rfl
   have x3:(V2 prog nU (vV (fS (rR (rR (sV f204))))) ((vV (fS (rR (rR (sV f204))))).toList.take 2) 0 [yL a,.mp 0 0,.sl [] 0 .nl,yL a,ab true,ab false,.val undef,.val undef,.val undef] ⟨[(0,.cells (tmL a))],1,[],0,[]⟩ [.no,.call [] [] 1 (.sl (zH zW l) l.length (.st 0 1)) none]).map Prod.snd=some ([yL a,.mp 0 0,.sl [] 0 .nl,yL a,ab true,ab false,yL a,.sl (zH zW l) l.length (.st 0 1),.val undef],⟨[(0,.cells (tmL a))],1,[0],1,[]⟩,[],[.call 251 [] [yL a,ai 8,ai 8] (.sl (zH zW l) l.length (.st 0 1)) [] 1]):=by kernel_rfl
   have x4:∀j:Nat->Value,(V2 prog nU (vV (fS (rR (rR (sV f204))))) ((vV (fS (rR (rR (sV f204))))).toList.drop 3) 3 (eset (tells [] (mutEnv [] j [yL a,.mp 0 0,.sl [] 0 .nl,yL a,ab true,ab false,yL a,.sl (zH zW l) l.length (.st 0 1),.val undef] 0)) (some 8) (.sl (zH zW (wX l)) (wX l).length .no)) (kM [] ⟨[(0,.cells (tmL a))],1,[0],1,[]⟩) []).map Prod.snd=some ([.val (j 0),.val (j 1),.sl (zH zW (wX l)) (wX l).length .no,.val (j 3),ab true,ab false,.val (j 6),.val (j 7),.sl (zH zW (wX l)) (wX l).length .no],⟨[],1,[],0,[]⟩,[],[]):=λj=>by kernel_rfl
   have x5:∀j:Nat->Value,zBk prog nU 0 f204 3000 (.run (rR (rR (rR (sV f204))))) [] [.val (j 0),.val (j 1),.sl (zH zW (wX l)) (wX l).length .no,.val (j 3),ab true,ab false,.val (j 6),.val (j 7),.sl (zH zW (wX l)) (wX l).length .no] ⟨[],1,[],0,[]⟩ [] [] [] [] false=some (.sl (zH zW (wX l)) (wX l).length .no,[],[.data (zH zW (wX l))]):=λj=>by kernel_rfl
   refine uH.body func204 (by kernel_rfl) ?_;refine Dv.seqP k0 ?_;refine lS (Q:=_) wN mixed 3000 (.run (fS (sV f204))) [] _ _ _ _ _ _ _ _ x1 yU.nil ?_;refine Dv.seqP k1 ?_;refine lS (Q:=_) wN mixed 3000 (.run (fS (rR (sV f204)))) [] _ _ _ _ _ _ _ _ x2 (yU.cons (zKb rfl) (yU.cons (M8 (qQ _ h2)) yU.nil)) ?_;refine Dv.seqP k2 ?_;obtain⟨id,k7⟩:=yAn k3;rw[k7];refine Dv.mut wN (na:=(0:Nat)) rfl 2 [] [] _ x3 (yU.cons (M8 (yAH _ h5)) yU.nil) k4 func250 k5 k6 (λi X h=>by cases h) ?_ x4 yU.nil ?_;·intro G0 W hB G w hE hR u hu;refine(zBT hR (by rfl) hsz hu).mono ?_;rintro e w'⟨v,b,S,z1,z2,z3,z4,z5,z6⟩;exact⟨v,b,S,z1,z2,z3,z4,z5,λG' _ _ hS=>⟨z6 G' hS,λq hq=>by cases hq⟩⟩
   ·intro j;exact X1 (na:=(0:Nat)) wN mixed (x5 j) (yU.cons (t8 (dI _)) yU.nil) (by decide)
  ·replace h:=ifF h6 h;cases h
 ·replace h:=ifF h3 h;replace h:=Option.some.inj h;subst h;exact⟨uH.toFin wN mixed func204 (by kernel_rfl) 3000 [.no,.call [] [] 0 (ab r1) (some false),.no] [] [] [] false (by kernel_rfl) (yU.cons (zKb h3) (yU.cons (M8 (qQ _ h2)) (yU.cons (t8 (dI ([]:yH))) yU.nil))) (by decide),⟨⟨trivial,trivial,⟨trivial,dT _⟩,trivial⟩,trivial⟩,(λ_ h=>nomatch h),dI _,(λ_ h=>nomatch h)⟩
theorem yDp{c:Nat}{a:Tm}:Cz (zMB c a) 204 [] [yL a] (λr=>.sl (zH zW r) r.length .no) (λ_=>[]) 0:=λ_ h=>yAJ h
theorem zDP(a b:Int):nI a b=max a b:=by unfold nI;split<;>omega
theorem wO{k n:Int}{l:List Tm}(h:xF (.mk k n l)=true):tX (.mk k n l)=true/\wR l=true:=by rw[xF]at h;simpa using h
theorem wD{t:Tm}{l:List Tm}(h:wR (t::l)=true):xF t=true/\wR l=true:=by rw[wR]at h;simpa using h
theorem mU{k n:Int}{l:List Tm}(h:tX (.mk k n l)=true):0<=n/\n<=1048576/\1<=k/\k<=8/\l.length<=2:=by have:=tK h;exact⟨this.2.2.1,this.2.2.2.1,this.1,this.2.1,this.2.2.2.2.1⟩
mutual theorem wL:∀t:Tm,xF t=true->t.Ok|.mk k n l,h=>by have h1:=wO h;rw[Tm.Ok];exact⟨by have:=(mU h1.1).2.2.2.2;omega,zFT l h1.2⟩theorem zFT:∀l:List Tm,wR l=true->gV l|[],_=>by rw[gV];trivial|t::l,h=>by have:=wD h;rw[gV];exact⟨wL t this.1,zFT l this.2⟩end
mutual theorem zTv:∀(t:Tm)(b:Int),0<=E0 t b
 |.mk k n l,b=>by
  rw[E0];split;·omega
  ·exact zDQ l k 0 b theorem zDQ:∀(l:List Tm)(k:Int)(i:Nat)(b:Int),0<=aB l k i b|[],k,i,b=>by rw[aB];omega|t::l,k,i,b=>by rw[aB];have:=zTv t (b+D9 k i);omega end
theorem zFU(t:Tm)(i:Nat):zB (λq=>zPE q t (i:Int)) (D9 t.k i):=by
 refine zB.mk λq=>?_;simp only[zPE,D9];by_cases h1:i=1;·subst h1;simp;by_cases h3:t.k=3<;>by_cases h4:t.k=4<;>simp[h3,h4]
 ·have:¬((i:Int)=1):=by omega
  simp[h1,this]
theorem zDR(k:Int)(i:Nat):0<=D9 k i/\D9 k i<=1:=by unfold D9;split<;>omega
mutual theorem zFV:∀(t:Tm)(b:Int),xF t=true->0<=b->b+t.high<=4611686018427387904->zB (λq=>zMa q t b) (E0 t b)
 |.mk k n l,b,hg,h0,h1=>by
  refine zB.succ ?_;simp only[zMa,Tm.k,Tm.n];have hh:=wO hg;have hn:=mU hh.1;rw[E0];by_cases hk:k=1
  ·rw[if_pos hk];rw[Tm.high]at h1;refine zB.ifT (by simpa using hk) (zB.ret.eq ?_);rw[zR (x:=n+1) (by omega) (by omega),zR (by omega) (by omega),zDP]
  ·rw[if_neg hk];refine zB.ifF (by simpa using hk) ?_;rw[Tm.high]at h1;exact(zCz l (.mk k n l) 0 b 0 rfl (by have:=hn.2.2.2.2;simp only[Tm.sub];omega) hh.2 h0 (by omega) (by omega)).eq (by have:=zDQ l k 0 b;simp only[Tm.k];omega)theorem zCz:∀(l:List Tm)(p:Tm)(v:Nat)(b m:Int),p.sub.drop v=l->p.sub.length<9223372036854775808->wR l=true->0<=b->0<=m->b+1+wY l<=4611686018427387904->zB (λq=>dU q p b (v:Int) m) (max m (aB l p.k v b))|[],p,v,b,m,hd,hl,ho,h0,hm,h1=>by refine zB.succ ?_;simp only[dU];rw[aB];exact zB.ifF (zZ hd) (zB.ret.eq (by omega))|t::l,p,v,b,m,hd,hl,ho,h0,hm,h1=>by refine zB.succ ?_;simp only[dU];have hg:=wD ho;have hu:=zDR p.k v;rw[wY]at h1;refine zB.ifT (zX hd) (zB.pure (zU hd) ((zFU p v).bind ?_));rw[zR (x:=b+D9 p.k v) (by omega) (by omega)];refine(zFV t (b+D9 p.k v) hg.1 (by omega) (by omega)).bind ?_;rw[zS v (by have:=yC hd;omega),zDP];refine(zCz l p (v+1) b _ (zP hd) hl hg.2 h0 (by omega) (by omega)).eq ?_;rw[aB];omega end
mutual theorem E9:∀(t:Tm)(a b:Int),(lK t a b).length<=t.nodes|.mk k n l,a,b=>by rw[lK,Tm.nodes];have:=zFW l a b;split<;>simp<;>omega theorem zFW:∀(l:List Tm)(a b:Int),(E1 l a b).length<=yN l|[],a,b=>by rw[E1,yN];simp|t::l,a,b=>by rw[E1,yN];have:=E9 t a b;have:=zFW l a b;simp;omega end
mutual theorem A8:∀(t:Tm)(a b:Int),t.Ok->t.nodes<=8192->zB (λq=>zIL q t a b) (lK t a b)
 |.mk k n l,a,b,ho,hn=>by
  refine zB.succ ?_;simp only[zIL,Tm.k,Tm.n];rw[lK];rw[Tm.nodes]at hn;by_cases ha:k=a
  ·refine zB.ifT (by simpa using ha) (zB.pure (yA (by simp)) ?_);rw[if_pos (.inl ha)];exact lV l (.mk k n l) 0 a b [n] rfl ho.1 ho.2 (by simp;omega)
  ·refine zB.ifF (by simpa using ha) ?_;by_cases hb:k=b;·refine zB.ifT (by simpa using hb) (zB.pure (yA (by simp)) ?_);rw[if_pos (.inr hb)];exact lV l (.mk k n l) 0 a b [n] rfl ho.1 ho.2 (by simp;omega)
   ·refine zB.ifF (by simpa using hb) ?_;rw[if_neg (by simp[ha,hb])];exact lV l (.mk k n l) 0 a b [] rfl ho.1 ho.2 (by simp;omega)theorem lV:∀(l:List Tm)(p:Tm)(v:Nat)(a b:Int)(m:List Int),p.sub.drop v=l->p.sub.length<9223372036854775808->gV l->m.length+yN l<=8192->zB (λq=>nW q p a b (v:Int) m) (m++E1 l a b)|[],p,v,a,b,m,hd,hl,ho,hn=>by refine zB.succ ?_;simp only[nW];rw[E1];exact zB.ifF (zZ hd) (zB.ret.eq (by simp))|t::l,p,v,a,b,m,hd,hl,ho,hn=>by refine zB.succ ?_;simp only[nW];rw[yN]at hn;have hc:=E9 t a b;refine zB.ifT (zX hd) (zB.pure (zU hd) ((A8 t a b ho.1 (by omega)).bind (zB.pure (yA (by omega)) ?_)));rw[zS v (by have:=yC hd;omega)];refine(lV l p (v+1) a b _ (zP hd) hl ho.2 (by simp;omega)).eq ?_;rw[E1];simp end
theorem zO{t:Tm}(h:zJ t=true):t.nodes<=8192/\t.high<=128/\xF t=true:=by unfold zJ at h;simp at h;exact⟨h.1.1,h.1.2,h.2⟩
def zCy(t:Tm)(a b:Int):List Int:=if zJ t=true then wX (lK t a b)else[]
theorem zPF(t:Tm)(ho:t.Ok):zB (λq=>zMB q t) (zCy t 8 8):=by
 simp only[zMB];refine(xI t ho).bind ?_;unfold zCy;by_cases h:zJ t=true;·have hs:=zO h;have:=E9 t 8 8;rw[if_pos h];refine zB.ifT h ((A8 t 8 8 ho hs.1).bind (zB.mk λq=>?_));rw[if_pos (by simp;omega)]
 ·rw[if_neg h];exact zB.ifF (by simpa using h) zB.ret
theorem zIN(t:Tm)(ho:t.Ok):zB (λq=>zMA q t) (zCy t 6 7):=by
 simp only[zMA];refine(xI t ho).bind ?_;unfold zCy;by_cases h:zJ t=true;·have hs:=zO h;have:=E9 t 6 7;rw[if_pos h];refine zB.ifT h ((A8 t 6 7 ho hs.1).bind (zB.mk λq=>?_));rw[if_pos (by simp;omega)]
 ·rw[if_neg h];exact zB.ifF (by simpa using h) zB.ret
theorem m9(x:Int):∀l:List Int,x∈oV l↔x∈l
 |[]=>by simp[oV]|[y]=>by simp[oV]|y::z::l=>by
  rw[pM];have:=m9 x (z::l);split;·subst_vars;rw[this];simp
  ·rw[List.mem_cons,this];simp
theorem F1(x:Int)(l:List Int):x∈wX l↔x∈l:=by unfold wX;rw[m9];exact(iG l).mem_iff
theorem S6:∀l:List Int,l.Pairwise (·<=·)->(oV l).Pairwise (·<=·)
 |[],_=>by simp[oV]|[y],_=>by simp[oV]|y::z::l,h=>by
  rw[pM];have h2:=S6 (z::l) (List.pairwise_cons.1 h).2;split;·exact h2
  ·refine List.pairwise_cons.2 ⟨λw hw=>?_,h2⟩;exact(List.pairwise_cons.1 h).1 w ((m9 w _).1 hw)
theorem zFX(l:List Int):(wX l).Pairwise (·<=·):=S6 _ (iH l)
theorem zFY:∀(l:List Int)(h:l≠[]),l.Pairwise (·<=·)->∀x∈l,x<=l.getLast h
 |[y],_,_,x,hx=>by simp at hx;simp[hx]|y::z::l,_,hp,x,hx=>by
  rw[List.getLast_cons (by simp)];have h2:=List.pairwise_cons.1 hp;rcases List.mem_cons.1 hx with rfl|hx;·exact h2.1 _ (List.getLast_mem _)
  ·exact zFY (z::l) (by simp) h2.2 x hx
def tO(t:Tm)(f n:Int):Bool:=zJ t&&decide (E0 t 0<=f)&&(lK t 6 7).all λx=>decide (x<n)
theorem mV(t:Tm)(f n:Int)(ho:t.Ok):zB (λq=>m8 q t f n) (tO t f n):=by
 simp only[m8];refine(xI t ho).bind ?_;unfold tO;by_cases h:zJ t=true
 ·have hs:=zO h;have hlen:=E9 t 6 7;refine zB.ifT h ((zFV t 0 hs.2.2 (by omega) (by omega)).bind ?_);rw[h];by_cases h2:E0 t 0>f;·exact zB.ifT (by simpa using h2) (zB.ret.eq (by simp;omega))
  ·refine zB.ifF (by simpa using h2) ((zIN t ho).bind ?_);have h2':decide (E0 t 0<=f)=true:=by simp;omega
   rw[h2'];unfold zCy;rw[if_pos h];have hr:=s9 (lK t 6 7);by_cases h3:wX (lK t 6 7)=[]
   ·refine zB.ifT (by rw[h3];rfl) (zB.ret.eq ?_);symm;simp only[Bool.true_and,List.all_eq_true];intro x hx;rw[<-F1,h3]at hx;cases hx
   ·have hpos:0<(wX (lK t 6 7)).length:=List.length_pos_iff.2 h3;refine zB.ifF (by simp;omega) (zB.pure (a:=(wX (lK t 6 7)).getLast h3) ?_ (zB.ret.eq ?_))
    ·rw[zR (by omega) (by omega)];unfold zL;rw[if_pos (by omega),List.getLast_eq_getElem,show((wX (lK t 6 7)).length-1:Int).toNat=(wX (lK t 6 7)).length-1 by omega];exact List.getElem?_eq_getElem _
    ·have hm:=zFY _ h3 (zFX _);rw[Bool.eq_iff_iff];simp only[decide_eq_true_eq,Bool.true_and,List.all_eq_true];constructor
     ·intro h4 x hx;have:=hm x ((F1 x _).2 hx);omega
     ·intro h4;exact h4 _ ((F1 _ _).1 (List.getLast_mem h3))
 ·exact zB.ifF (by simpa using h) (zB.ret.eq (by simp[h]))
def oY:Nat->yI->Int->Int->yI->Option yI|0,_,_,_,_=>none|f+1,e,g,m,d=>if decide (g<m)then fY e.length m>>=λx2=>zL d (x2:Int)>>=λx4=>fY e.length g>>=λx6=>zL d (x6:Int)>>=λx8=>E7 d x6 x4>>=λx10=>E7 x10 x2 x8>>=λx12=>oY f e (yB (g+1)) (yB (m-1)) x12 else some d
def eD(f:Nat)(e:yI):Option yI:=oY f e 0 (yB ((e.length:Int)-1)) e
theorem zFZ:∀f:Nat,∀e g m d,Lz (oY f e g m d) 1 f167 (pt 53 f167) (λj=>sp j 28 0 [(0,.ms 0 0 e.length e.length 3),(2,ai g),(3,ai m)]) ⟨[(0,.row (zH zA d))],1,[],0,[]⟩ (λ_=>.tup []) (λr=>[.row (zH zA r)]) 0 [.blk 0]:=yS (λ_ _ _ _=>lN) λf ih=>λe g m d=>lw λ_=>rB 0 (rH λ_ h3=>rS (oA 0 (zKH (b:=0) (c:=List.length e) (z:=3) h3))<|rH λx4 h5=>rS (oG (a:=(.agg [ai x4.k,ai x4.n,zC zA x4.sub .no])) 0 (ldE sY h5 (true,3) (val:=.agg [ai x4.k,ai x4.n,zC zA x4.sub .no]) (by rw[xO];rfl)))<|rH λ_ h7=>rS (oA 0 (zKH (b:=0) (c:=List.length e) (z:=3) h7))<|rH λx8 h9=>rS (oG (a:=(.agg [ai x8.k,ai x8.n,zC zA x8.sub .no])) 0 (ldE sY h9 (true,3) (val:=.agg [ai x8.k,ai x8.n,zC zA x8.sub .no]) (by rw[xO];rfl)))<|rS (oA 0 (zKH (b:=0) (c:=List.length e) (z:=3) h7))<|rW (λh11=>oW 0 (wtE (x:=x4) (cs:=[ai x4.k,ai x4.n,zC zA x4.sub .no]) sY (by rw[xO];rfl) h11)) λ_=>rS (oA 0 (zKH (b:=0) (c:=List.length e) (z:=3) h3))<|rW (λh13=>oW 0 (wtE (x:=x8) (cs:=[ai x8.k,ai x8.n,zC zA x8.sub .no]) sY (by rw[xO];rfl) h13)) λ_=>lH 2 [] [0] [] [0,2,3] (ih _ _ _ _))<|lE 0
theorem zGz{f e}:Cz (eD f e) 167 [.row (zH zA e)] [.ms 0 0 e.length e.length 3] (λ_=>.tup []) (λr=>[.row (zH zA r)]) 0:=fw func167<|fH 2 [] [0] [] [0,2,3] (zFZ _ _ _ _ _)
def uB:Nat->Tm->yI->Int->Int->yI->Option ((Tm×yI)⊕(yI×Tm))|0,_,_,_,_,_=>none|f+1,d,a,c,e,b=>if c==5 then if(b.length:Int)==2 then if decide ((a.length:Int)>=8192)then some (Sum.inl (d,[]))else zL b 1>>=λx4=>yR 40 a [x4]>>=λl6=>zL b 0>>=λx8=>uB f d l6 x8.k x8.n x8.sub else eD f a>>=λr10=>gfz a.length r10>>=λl12=>some (Sum.inr (l12,(Tm.mk c e b)))else eD f a>>=λr14=>gfz a.length r14>>=λl16=>some (Sum.inr (l16,(Tm.mk c e b)))
def A9(f:Nat)(d:Tm):Option ((Tm×yI)⊕(yI×Tm)):=uB f d ([]:yI) d.k d.n d.sub
def j4(j:Nat->Value)(d:Tm)(a:yI)(c e:Int)(b:yI):=sp j 35 0 [(1,.mp 0 0),(2,.mp 1 0),(4,.ms 2 0 a.length a.length 3),(5,.mp 3 0)]
def j5(d:Tm)(a:yI)(c e:Int)(b:yI):yT:=⟨[(0,.cells [ai d.k,ai d.n,zC zA d.sub .no]),(1,.cells [ai 0,ai 0,.ms 4 0 (List.length ([]:yI)) (List.length ([]:yI)) 3]),(2,.row (zH zA a)),(3,.cells [ai c,ai e,zC zA b .no]),(4,.row (zH zA ([]:yI)))],5,[],0,[]⟩
abbrev j6(d:Tm)(r:Tm×yI)(C:Cf):Prop:=C 102 [] [yL d] (.tup [yL r.1,.sl (zH zA r.2) r.2.length .no]) [] 0
abbrev j7(d:Tm)(r:yI×Tm)(C:Cf):Prop:=C 102 [] [yL d] (.tup [yL r.2,.ms 0 0 r.1.length r.1.length 3]) [.row (zH zA r.1)] 0
theorem zPG:Qf 102 f102:=⟨func102,by kernel_rfl⟩
theorem zPH{d r}(h:j6 d r Ci):j6 d r Ct:=⟨h,⟨⟨tv,tv,⟨tv,dT _⟩,tv⟩,tv⟩,wA,⟨⟨tv,tv,dT _,tv⟩,dT _,tv⟩,wA⟩
theorem zPI{d r}(h:j7 d r Ci):j7 d r Ct:=⟨h,⟨⟨tv,tv,⟨tv,dT _⟩,tv⟩,tv⟩,wA,⟨⟨tv,tv,dT _,tv⟩,(lz rfl),tv⟩,(wI (dT _) wA)⟩
theorem F2:∀f:Nat,(∀d a c e b r,uB f d a c e b=some r->(∀j,Dl prog 0 (pt 4069 f102) (j4 j d a c e b) (j5 d a c e b) (wS prog 0 ((match(generalizing:=false)r with|Sum.inl x=>aA prog 0 f102 (.tup [yL x.1,.sl (zH zA x.2) x.2.length .no]) [] 0|Sum.inr x=>aA prog 0 f102 (.tup [yL x.2,.ms 0 0 x.1.length x.1.length 3]) [.row (zH zA x.1)] 0)) [.blk 0,.seq (pt 255 f102)]))):=by intro f;induction f with|zero=>exactλ_ _ _ _ _ _ h=>nn h|succ f ih=>
 intro d a c e b r h;rw[uB]at h;rcases spl h with⟨h1,h⟩|⟨h1,h⟩;have k:=oB 1 h1 o0;rcases spl h with⟨h2,h⟩|⟨h2,h⟩;have k:=oB 2 h2 k;rcases spl h with⟨h3,h⟩|⟨h3,h⟩;obtain rfl:=sj h;exactλj=>olF 2 [] (oD (dT ([]:yI))<|oD (dT d.sub)<|oB 1 h3 k);obtain⟨x4,h5,h⟩:=sS h;obtain⟨l6,h7,h⟩:=sS h;obtain⟨x8,h9,h⟩:=sS h;exactλj=>olH 2 [] [0,1,5,3,4] [] [1,2,4,5] (oD (dT ([]:yI))<|oD (dT x8.sub)<|oD (dT l6)<|oD (dT d.sub)<|oA 1 (yP (o:=.no) h9)<|oM 0 (yAa h7 (by simp))<|oS 1 (yZ xO [x4])<|oA 1 (yP (o:=.no) h5)<|oB 1 h3 k) (ih _ _ _ _ _ _ h);obtain⟨r10,h11,h⟩:=sS h;obtain⟨l12,h13,h⟩:=sS h;obtain⟨h13a,h13b⟩:=p9 h13;obtain rfl:=sj h;obtain rfl:=h13a.symm;try dsimp only
 rw[<-h13b];exactλj=>olF 2 [2] (oD (dT b)<|oD (dT r10)<|oC 0 [2] (zGz _ h11)<|oB 2 h2 k);obtain⟨r14,h15,h⟩:=sS h;obtain⟨l16,h17,h⟩:=sS h;obtain⟨h17a,h17b⟩:=p9 h17;obtain rfl:=sj h;obtain rfl:=h17a.symm;try dsimp only
 rw[<-h17b];exactλj=>olF 2 [2] (oD (dT b)<|oD (dT r14)<|oC 0 [2] (zGz _ h15)<|oB 1 h1 o0)
theorem zTu{f d r}(h:A9 f d=some r):(match(generalizing:=false)r with|Sum.inl x=>j6 d x Ct|Sum.inr x=>j7 d x Ct):=by unfold A9 at h;rcases r with y0|y1;exact zPH (tH zPG 2 [(none,4,4099),(some 1,2,4099)] [0,1,3,2,4] [] [1,2,4,5] (oD (dT ([]:yI))<|oD (dT d.sub)<|oD (dT ([]:yI))<|oD (dT d.sub) o0) (F2 _ _ _ _ _ _ _ h));exact zPI (tH zPG 2 [(none,4,4099),(some 1,2,4099)] [0,1,3,2,4] [] [1,2,4,5] (oD (dT ([]:yI))<|oD (dT d.sub)<|oD (dT ([]:yI))<|oD (dT d.sub) o0) (F2 _ _ _ _ _ _ _ h))
theorem zTt{f d r}(h:A9 f d=some r):(match(generalizing:=false)r with|Sum.inl x=>CT prog 102 [] [yL d] (.tup [yL x.1,.sl (zH zA x.2) x.2.length .no]) [] 0|Sum.inr x=>CT prog 102 [] [yL d] (.tup [yL x.2,.sl (zH zA x.1) x.1.length .no]) [] 0):=by
 have k:=zTu h;rcases r with y0|y1;·exact k
 ·exact CT.freeze (H1:=[]) (cs:=zH zA y1.1) (res':=(.tup [yL y1.2,.sl (zH zA y1.1) y1.1.length .no])) k (Nat.le_of_ble_eq_true rfl) wA (dT _) ⟨⟨trivial,trivial,dT _,tv⟩,(.inl ⟨rfl,rfl⟩),tv⟩ (by rfl) rfl
theorem zXO{f d}:Cz (A9 f d) 102 [] [yL d] (Sum.elim (λx=>.tup [yL x.1,.sl (zH zA x.2) x.2.length .no]) (λx=>.tup [yL x.2,.sl (zH zA x.1) x.1.length .no])) (Sum.elim (λ_=>[]) (λ_=>[])) 0:=λr h=>by have k:=zTt h;rcases r with _|_<;>exact k
def jF(b:Nat)(a:Tm):Option (Tm×yI):=A9 b a>>=λx=>some (Sum.elim id (λy=>(y.2,y.1)) x)
theorem yAK{b:Nat}{a:Tm}{r:Tm×yI}(h:jF b a=some r):CT prog 102 [] [yL a] (.tup [yL r.1,.sl (zH zA r.2) r.2.length .no]) [] 0:=by obtain⟨x,h1,h⟩:=sS h;obtain rfl:=sj h;rcases x with y|y<;>exact zXO _ h1
theorem V4{b:Nat}{a:Tm}:Cz (jF b a) 102 [] [yL a] (λr=>.tup [yL r.1,.sl (zH zA r.2) r.2.length .no]) (λ_=>[]) 0:=λ_ h=>yAK h
def zGy(d:Nat)(a b:Int)(c:yI):Option (Tm):=some (Tm.mk a b c)
theorem zIO{d a b c}:Cz (zGy d a b c) 188 [] [ai a,ai b,zC zA c .no] (λr=>yL r) (λ_=>[]) 0:=fw func188<|fE 1
def gW(c:Nat)(a b:Tm):Option (Tm):=zGy c 5 0 [a,b]>>=λr1=>some r1
theorem lL{c a b}:Cz (gW c a b) 131 [] [yL a,yL b] (λr=>yL r) (λ_=>[]) 0:=fw func131<|rS (oS 2 (yZ xO [a,b]))<|rC 0 [] zIO λ_=>fE 1
mutual def zMC:Nat->Tm->Option (Tm)|0,_=>none|d+1,b=>dV d b 0 []def dV:Nat->Tm->Int->yI->Option (Tm)|0,_,_,_=>none|d+1,b,c,a=>if decide (c<(b.sub.length:Int))then zL b.sub c>>=λx2=>zMC d x2>>=λr4=>yR 40 a [r4]>>=λl6=>dV d b (yB (c+1)) l6 else some (Tm.mk b.k b.n a)end
theorem zGx:∀d:Nat,(∀b,Cz (zMC d b) 162 [] [yL b] (λr=>yL r) (λ_=>[]) 0)/\(∀b c a,Lz (dV d b c a) 0 f162 (pt 4021 f162) (λj=>sp j 27 0 [(2,.mp 0 0),(3,.mp 1 0),(12,zC zA b.sub .no),(13,ai (b.sub.length:Int)),(14,ai c)]) ⟨[(0,.cells [ai 0,ai 0,zC zA ([]:yI) .nl]),(1,.cells [ai b.k,ai b.n,zC zA a (.st 0 3)])],2,[0],1,[]⟩ (λr=>yL r) (λ_=>[]) 0 [.blk 0,.seq (pt 63 f162)]):=yS ⟨λ_=>cN,λ_ _ _=>lN⟩ λd ih=>⟨λb=>fw func162<|fH 5 [(some 2,2,3)] [1,2] [0] [2,3,12,13,14] (ih.2 _ _ _),λb c a=>lw λ_=>rB 0 (rA 0 (yP (o:=.no)) λ_=>rS (gR 2)<|rC 1 [] (ih.1 _) λr4=>rS (oS 0 (yZ xO [r4]))<|rW (λh7=>oP 0 (xY h7 (by simp))) λ_=>lH 2 [] [0,1] [1] [2,3,12,13,14] (ih.2 _ _ _))<|lE 2⟩
theorem yDo{d b}:Cz (zMC d b) 162 [] [yL b] (λr=>yL r) (λ_=>[]) 0:=(zGx _).1 _
def dW:Nat->yI->Int->Int->Int->yI->Option (Tm)|0,_,_,_,_,_=>none|e+1,d,f,a,b,c=>if decide (f<(d.length:Int))then zL d f>>=λx2=>gW e (Tm.mk a b c) x2>>=λr4=>dW e d (yB (f+1)) r4.k r4.n r4.sub else some (Tm.mk a b c)
def lM(e:Nat)(g:Tm)(d:yI):Option (Tm):=dW e d 0 g.k g.n g.sub
theorem zTs:∀e:Nat,∀d f a b c,Lz (dW e d f a b c) 0 f189 (pt 949 f189) (λj=>sp j 18 0 [(2,.mp 0 0),(4,.mp 1 0),(7,zC zA d .no),(8,ai (d.length:Int)),(9,ai f)]) ⟨[(0,.cells [ai a,ai b,zC zA c .no]),(1,.cells [ai 0,ai 0,zC zA ([]:yI) .nl])],2,[],0,[]⟩ (λr=>yL r) (λ_=>[]) 0 [.blk 0,.seq (pt 15 f189)]:=yS (λ_ _ _ _ _=>lN) λe ih=>λd f a b c=>lw λ_=>rB 0 (rA 0 (yP (o:=.no)) λ_=>rC 4 [] lL λ_=>lH 2 [] [0,1] [] [2,4,7,8,9] (ih _ _ _ _ _))<|lE 2
theorem nX{e g d}:Cz (lM e g d) 189 [] [yL g,zC zA d .no] (λr=>yL r) (λ_=>[]) 0:=fw func189<|fH 1 [] [0,1] [] [2,4,7,8,9] (zTs _ _ _ _ _ _)
def e96(b:Nat)(a:Tm):Option (Tm):=rJ b a>>=λr1=>if r1 then zMC b a>>=λr4=>some r4 else some (Tm.mk 0 0 [])
theorem c96{b a}:Cz (e96 b a) 96 [] [yL a] (λr=>yL r) (λ_=>[]) 0:=fw func96<|rK 1 [] qQ (λ_=>rC 2 [] yDo λ_=>fE 1) λ_=>fE 2
theorem vR(t:Tm):Tm.mk t.k t.n t.sub=t:=by cases t;rfl
theorem j8{α:Type}{l:List α}{v:Nat}{x:α}{r:List α}(h:l.drop v=x::r):l.take (v+1)=l.take v++[x]:=by
 have:l[v]?=some x:=by have:=congrArg (λz=>z[0]?) h;simpa using this
 rw[List.take_add_one,this];rfl
mutual theorem zCx:∀(t:Tm),xF t=true->zB (λq=>zMC q t) t|.mk k n l,hg=>by refine zB.succ ?_;simp only[zMC];have hh:=wO hg;exact j9 l (.mk k n l) 0 [] rfl hh.2 (by have:=(mU hh.1).2.2.2.2;exact this) rfl theorem j9:∀(l:List Tm)(p:Tm)(v:Nat)(acc:List Tm),p.sub.drop v=l->wR l=true->p.sub.length<=2->acc=p.sub.take v->zB (λq=>dV q p (v:Int) acc) p|[],p,v,acc,hd,hg,hl,ha=>by refine zB.succ ?_;simp only[dV];refine zB.ifF (zZ hd) (zB.ret.eq ?_);have:p.sub.length<=v:=List.drop_eq_nil_iff.1 hd;rw[ha,List.take_of_length_le this,vR]|t::l,p,v,acc,hd,hg,hl,ha=>by have hlt:=yC hd;have hc:=wD hg;refine zB.succ ?_;simp only[dV];refine zB.ifT (zX hd) (zB.pure (zU hd) ((zCx t hc.1).bind (zB.pure (yA (by rw[ha];simp<;>omega)) ?_)));rw[zS v (by omega)];exact j9 l p (v+1) _ (zP hd) hc.2 hl (by rw[ha,j8 hd])end
def jG(t:Tm):Tm:=if zJ t=true then t else .mk 0 0 []
theorem nY(t:Tm)(ho:t.Ok):zB (λq=>e96 q t) (jG t):=by
 simp only[e96];refine(xI t ho).bind ?_;unfold jG;by_cases h:zJ t=true;·rw[if_pos h];exact zB.ifT h ((zCx t (zO h).2.2).bind zB.ret)
 ·rw[if_neg h];exact zB.ifF (by simpa using h) zB.ret
def yQ:Tm->Tm|.mk k n [a,b]=>if k=5 then yQ a else .mk k n [a,b]|x=>x
def xH:Tm->List Tm|.mk k _ [a,b]=>if k=5 then xH a++[b]else[]|_=>[]
theorem zPJ{l:List Tm}(h:l.length=2):∃a b,l=[a,b]:=by rcases l with _|⟨a,_|⟨b,_|⟨c,l⟩⟩⟩<;>simp at h;exact⟨a,b,rfl⟩
theorem X2(n:Int)(a b:Tm):yQ (.mk 5 n [a,b])=yQ a:=by rw[yQ];simp
theorem dX(n:Int)(a b:Tm):xH (.mk 5 n [a,b])=xH a++[b]:=by rw[xH];simp
theorem F3{t:Tm}(h:t.k≠5):yQ t=t:=by
 unfold yQ;split;·exact if_neg h
 ·rfl
theorem iL{t:Tm}(h:t.k≠5):xH t=[]:=by
 unfold xH;split;·exact if_neg h
 ·rfl
theorem X3{P:Tm->Prop}(h0:∀t,xF t=true->t.k≠5->P t)(h1:∀n a b,xF (.mk 5 n [a,b])=true->xF a=true->xF b=true->P a->P (.mk 5 n [a,b])):∀t:Tm,xF t=true->P t:=by intro t;induction hn:t.nodes using Nat.strongRecOn generalizing t with|ind m ih=>
 intro hg;by_cases h:t.k=5
 ·obtain⟨k,n,l⟩:=t;have hh:=wO hg;have hs:=tK hh.1;simp only[Tm.k]at h;subst h;obtain⟨a,b,rfl⟩:=zPJ (hs.2.2.2.2.2.1 (.inr (.inr rfl))).1;have hc:=wD hh.2;have hc2:=wD hc.2;refine h1 n a b hg hc.1 hc2.1 (ih a.nodes ?_ a rfl hc.1);rw[Tm.nodes,yN]at hn;omega
 ·exact h0 t hg h
theorem zTq(l:List Tm)(hl:l.length<=1048576):∀(m i:Nat)(acc:List Tm),2*i+m=l.length->acc.length=l.length->(∀p,p<l.length->acc[p]?=if p<i\/l.length<p+i+1 then l[l.length-1-p]? else l[p]?)->zB (λq=>oY q l (i:Int) ((l.length:Int)-1-i) acc) l.reverse:=by
 have fin:∀(i:Nat)(acc:List Tm),(∀p,p<l.length->p<i\/l.length<p+i+1\/l.length=2*p+1)->acc.length=l.length->(∀p,p<l.length->acc[p]?=if p<i\/l.length<p+i+1 then l[l.length-1-p]? else l[p]?)->acc=l.reverse:=λi acc h0 h1 h2=>by
  refine List.ext_getElem? λp=>?_;by_cases hp:p<l.length
  ·rw[h2 p hp,List.getElem?_reverse hp];by_cases h:p<i\/l.length<p+i+1;·rw[if_pos h]
   ·rw[if_neg h];have:=h0 p hp;rw[show l.length-1-p=p by omega]
  ·rw[List.getElem?_eq_none (by omega),List.getElem?_eq_none (by simp;omega)]
 intro m;induction m using Nat.strongRecOn with|ind m ih=>
  intro i acc hm ha hI;refine zB.succ ?_;simp only[oY];by_cases hm2:m<2;·exact zB.ifF (decide_eq_false (by omega)) (zB.ret.eq (fin i acc (λp hp=>by omega) ha hI))
  ·have g1:fY l.length ((l.length:Int)-1-i)=some (l.length-1-i):=by unfold fY;rw[if_pos (by omega)];congr 1;omega
   have g2:fY l.length (i:Int)=some i:=by unfold fY;rw[if_pos (by omega)];congr 1
   obtain⟨x,hx⟩:∃x,zL acc ((l.length-1-i:Nat):Int)=some x:=⟨acc[l.length-1-i]'(by omega),by unfold zL;rw[if_pos (by omega)];simp⟩;obtain⟨y,hy⟩:∃y,zL acc (i:Int)=some y:=⟨acc[i]'(by omega),by unfold zL;rw[if_pos (by omega)];simp⟩;have ex:acc[l.length-1-i]?=some x:=by have:=(jC hx).2.2;simpa using this
   have ey:acc[i]?=some y:=by have:=(jC hy).2.2;simpa using this
   rw[hI _ (by omega),if_neg (by omega)]at ex ey;refine zB.ifT (decide_eq_true (by omega)) (zB.pure g1 (zB.pure hx (zB.pure g2 (zB.pure hy (zB.pure (a:=acc.set i x) (by unfold E7;rw[if_pos (by omega)]) (zB.pure (a:=(acc.set i x).set (l.length-1-i) y) (by unfold E7;rw[if_pos (by simp;omega)]) ?_))))));rw[zS i (by omega),zR (by omega) (by omega),show(l.length:Int)-1-i-1=(l.length:Int)-1-((i+1:Nat):Int)by omega];refine ih (m-2) (by omega) (i+1) _ (by omega) (by simp[ha]) λp hp=>?_;rw[List.getElem?_set,List.getElem?_set];by_cases h1:l.length-1-i=p;·rw[if_pos h1,if_pos (by simp;omega),if_pos (by omega),show l.length-1-p=i by omega,ey]
   ·rw[if_neg h1];by_cases h2:i=p;·rw[if_pos h2,if_pos (by omega),if_pos (by omega),show l.length-1-p=l.length-1-i by omega,ex]
    ·rw[if_neg h2,hI p hp];by_cases h3:p<i\/l.length<p+i+1;·rw[if_pos h3,if_pos (by omega)]
     ·rw[if_neg h3,if_neg (by omega)]
theorem zPK(l:List Tm)(hl:l.length<=1048576):zB (λq=>eD q l) l.reverse:=by
 simp only[eD];rw[zR (by omega) (by omega)];have:=zTq l hl l.length 0 l (by omega) rfl λp hp=>by rw[if_neg (by omega)]
 simpa using this
theorem zMD(p0:Tm):∀t:Tm,xF t=true->∀l:List Tm,l.length+t.nodes<=8192->zB (λq=>uB q p0 l t.k t.n t.sub) (.inr (xH t++l.reverse,yQ t)):=by
 refine X3 ?_ ?_
 ·intro t hg hk l hl;rw[F3 hk,iL hk];refine zB.succ ?_;simp only[uB];refine zB.ifF (by simpa using hk) ((zPK l (by omega)).bind (zB.pure (a:=l.reverse) (by unfold gfz;rw[if_pos (by simp)]) (zB.ret.eq ?_)));rw[vR];simp
 ·intro n a b hg ha hb ih l hl;rw[Tm.nodes,yN,yN,yN]at hl;rw[X2,dX];refine zB.succ ?_;simp only[uB];refine zB.ifT rfl (zB.ifT rfl (zB.ifF (decide_eq_false (by omega)) (zB.pure (a:=b) rfl (zB.pure (yA (by simp;omega)) (zB.pure (a:=a) rfl ((ih (l++[b]) (by simp;omega)).eq ?_))))));simp
theorem qX(t:Tm)(hs:zJ t=true):zB (λq=>jF q t) (yQ t,xH t):=by have h:=zO hs;simp only[jF,A9];refine(zMD t t h.2.2 [] (by simpa using h.1)).bind (zB.ret.eq ?_);simp
theorem zDS:∀t:Tm,xF t=true->xF (yQ t)=true/\(yQ t).k≠5/\(yQ t).nodes<=t.nodes/\(yQ t).high<=t.high/\∀x∈xH t,xF x=true/\x.nodes<t.nodes/\x.high<t.high:=by
 refine X3 ?_ ?_
 ·intro t hg hk;rw[F3 hk,iL hk];exact⟨hg,hk,Nat.le_refl _,Nat.le_refl _,λx hx=>by cases hx⟩
 ·intro n a b hg ha hb ih;rw[X2,dX];simp only[Tm.nodes,yN,Tm.high,wY];refine⟨ih.1,ih.2.1,by omega,by omega,λx hx=>?_⟩;rcases List.mem_append.1 hx with hx|hx;·have:=ih.2.2.2.2 x hx;exact⟨this.1,by omega,by omega⟩
  ·simp at hx;subst hx;exact⟨hb,by omega,by omega⟩
theorem mW{t:Tm}(h1:t.nodes<=8192)(h2:t.high<=128)(h3:xF t=true):zJ t=true:=by unfold zJ;simp[h1,h2,h3]
theorem xX{t x:Tm}(h:zJ t=true)(hx:x∈xH t):zJ x=true:=by have hs:=zO h;have:=(zDS t hs.2.2).2.2.2.2 x hx;exact mW (by omega) (by omega) this.1
theorem qH{t:Tm}(h:zJ t=true):zJ (yQ t)=true:=by have hs:=zO h;have:=zDS t hs.2.2;exact mW (by omega) (by omega) this.1
theorem rT:∀t:Tm,xF t=true->(xH t).length<t.nodes:=by
 refine X3 ?_ ?_;·intro t hg hk;rw[iL hk];have:=xM t;simp;omega
 ·intro n a b hg ha hb ih;rw[dX,Tm.nodes,yN,yN,yN];simp;omega
def kO(f:Tm):List Tm->Tm|[]=>f|a::l=>kO (.mk 5 0 [f,a]) l
theorem nL(f a:Tm):zB (λq=>gW q f a) (.mk 5 0 [f,a]):=zB.mk λ_=>rfl
theorem zCw:∀(l p:List Tm)(v:Nat)(f:Tm),p.drop v=l->p.length<9223372036854775808->zB (λq=>dW q p (v:Int) f.k f.n f.sub) (kO f l)|[],p,v,f,hd,hl=>by refine zB.succ ?_;simp only[dW];exact zB.ifF (zZ hd) (zB.ret.eq (by rw[vR,kO]))|a::l,p,v,f,hd,hl=>by have hlt:=yC hd;refine zB.succ ?_;simp only[dW];rw[vR];refine zB.ifT (zX hd) (zB.pure (zU hd) ((nL f a).bind ?_));rw[zS v (by omega),kO];exact zCw l p (v+1) (.mk 5 0 [f,a]) (zP hd) hl
theorem vI(f:Tm)(l:List Tm)(h:l.length<9223372036854775808):zB (λq=>lM q f l) (kO f l):=by simp only[lM];exact zCw l l 0 f rfl h
theorem tP:∀(l:List Tm)(f:Tm),f.Ok->(∀x∈l,x.Ok)->(kO f l).Ok|[],f,hf,_=>by rw[kO];exact hf|a::l,f,hf,hl=>by rw[kO];refine tP l _ ?_ λx hx=>hl x (by simp[hx]);rw[Tm.Ok,gV,gV,gV];exact⟨by simp,hf,hl a (by simp),trivial⟩
def V5(b:Nat)(a:Int):Option (Tm):=zGy b 2 a []>>=λr1=>some r1
theorem zGw{b a}:Cz (V5 b a) 129 [] [ai a] (λr=>yL r) (λ_=>[]) 0:=fw func129<|rC 0 [] zIO λ_=>fE 1
def B0(b:Nat)(a:Int):Option (Tm):=zGy b 1 a []>>=λr1=>some r1
theorem eE{b a}:Cz (B0 b a) 132 [] [ai a] (λr=>yL r) (λ_=>[]) 0:=fw func132<|rC 0 [] zIO λ_=>fE 1
def zPL(b:Nat)(a:Int):Option (Bool):=if decide (a>=0)then some (decide (a<=1048576))else some false
theorem yAL{b a}:Cz (zPL b a) 318 [] [ai a] (λr=>ab r) (λ_=>[]) 0:=fw func318<|rB 0 (fE 1)<|fE 0
def i4(d:Nat)(a b c:Int):Option (Int):=if decide (a<b)then some a else some (yB (a+c))
theorem zPM{d a b c}:Cz (i4 d a b c) 320 [.cells [ai b],.cells [ai c]] [ai a,.mp 0 0,.mp 1 0] (λr=>ai r) (λ_=>[.cells [ai b],.cells [ai c]]) 0:=fw func320<|rB 1 (fE 0)<|fE 2
mutual def oZ:Nat->Tm->Int->Int->Int->Option (Tm)|0,_,_,_,_=>none|g+1,b,e,c,d=>if b.k==1 then if decide (b.n>=e)then i4 g (yB (b.n-e)) c d>>=λr3=>B0 g (yB (r3+e))>>=λr5=>some r5 else B0 g b.n>>=λr7=>some r7 else uC g b e c d 0 []def uC:Nat->Tm->Int->Int->Int->Int->yI->Option (Tm)
 |0,_,_,_,_,_,_=>none|g+1,b,e,c,d,f,a=>if decide (f<(b.sub.length:Int))then zL b.sub f>>=λx10=>if f==1 then if b.k !=5 then oZ g x10 (yB (e+1)) c d>>=λr14=>yR 40 a [r14]>>=λl16=>uC g b e c d (yB (f+1)) l16 else oZ g x10 e c d>>=λr18=>yR 40 a [r18]>>=λl20=>uC g b e c d (yB (f+1)) l20 else oZ g x10 e c d>>=λr22=>yR 40 a [r22]>>=λl24=>uC g b e c d (yB (f+1)) l24 else some (Tm.mk b.k b.n a)end
theorem aC:∀g:Nat,(∀b e c d,Cz (oZ g b e c d) 319 [.cells [ai c],.cells [ai d]] [yL b,ai e,.clo 320 [] [.mp 0 0,.mp 1 0]] (λr=>yL r) (λ_=>[.cells [ai c],.cells [ai d]]) 0)/\(∀b e c d f a,Lz (uC g b e c d f a) 2 f319 (pt 16309 f319) (λj=>sp j 64 0 [(1,ai e),(2,.clo 320 [] [.mp 0 0,.mp 1 0]),(3,.mp 2 0),(6,.mp 3 0),(7,.mp 4 0),(36,zC zA b.sub .no),(37,ai (b.sub.length:Int)),(38,ai f)]) ⟨[(0,.cells [ai c]),(1,.cells [ai d]),(2,.cells [ai b.k,ai b.n,zC zA b.sub .no]),(3,.cells [ai 0,ai 0,zC zA ([]:yI) .nl]),(4,.cells [ai b.k,ai b.n,zC zA a (.st 0 3)])],5,[0],1,[]⟩ (λr=>yL r) (λ_=>[.cells [ai c],.cells [ai d]]) 0 [.blk 0,.seq (pt 255 f319)]):=yS ⟨λ_ _ _ _=>cN,λ_ _ _ _ _ _=>lN⟩ λg ih=>⟨λb e c d=>fw func319<|rB 1 (rB 1 (rC 2 [0,1] zPM λ_=>rC 1 [] eE λ_=>fE 1)<|rC 1 [] eE λ_=>fE 1)<|fH 5 [(some 4,2,3)] [0,1,2,3,4] [0] [1,2,3,6,7,36,37,38] (ih.2 _ _ _ _ _ _),λb e c d f a=>lw λ_=>rB 0 (rA 0 (yP (o:=.no)) λ_=>rB 2 (rB 1 (rS (gR 1)<|rC 1 [0,1] (ih.1 _ _ _ _) λr14=>rS (oS 0 (yZ xO [r14]))<|rW (λh17=>oP 0 (xY h17 (by simp))) λ_=>lH 2 [] [0,1,2,3,4] [1] [1,2,3,6,7,36,37,38] (ih.2 _ _ _ _ _ _))<|rS (gR 0)<|rC 1 [0,1] (ih.1 _ _ _ _) λr18=>rS (oS 0 (yZ xO [r18]))<|rW (λh21=>oP 0 (xY h21 (by simp))) λ_=>lH 2 [] [0,1,2,3,4] [1] [1,2,3,6,7,36,37,38] (ih.2 _ _ _ _ _ _))<|rS (gR 0)<|rC 1 [0,1] (ih.1 _ _ _ _) λr22=>rS (oS 0 (yZ xO [r22]))<|rW (λh25=>oP 0 (xY h25 (by simp))) λ_=>lH 2 [] [0,1,2,3,4] [1] [1,2,3,6,7,36,37,38] (ih.2 _ _ _ _ _ _))<|lE 2⟩
theorem zPN{g b e c d}:Cz (oZ g b e c d) 319 [.cells [ai c],.cells [ai d]] [yL b,ai e,.clo 320 [] [.mp 0 0,.mp 1 0]] (λr=>yL r) (λ_=>[.cells [ai c],.cells [ai d]]) 0:=(aC _).1 _ _ _ _
def zPO(a:Nat)(b:Tm)(c d:Int):Option (Tm×Int):=rJ a b>>=λr1=>if r1 then zPL a c>>=λr4=>if r4 then zPL a d>>=λr7=>if r7 then oZ a b 0 d c>>=λr10=>rJ a r10>>=λr12=>if r12 then some (r10,0)else some ((Tm.mk 0 0 []),2)else some ((Tm.mk 0 0 []),5)else some ((Tm.mk 0 0 []),5)else some ((Tm.mk 0 0 []),5)
theorem yAM{a b c d}:Cz (zPO a b c d) 294 [] [yL b,ai c,ai d] (λr=>.tup [yL r.1,ai r.2]) (λ_=>[]) 0:=fw func294<|rK 1 [] qQ (λ_=>rK 2 [] yAL (λ_=>rK 2 [] yAL (λ_=>rC 2 [2,1] zPN λ_=>rK 2 [] qQ (λ_=>fE 3) λ_=>fE 2) λ_=>fE 2) λ_=>fE 2) λ_=>fE 2
def zGv(c:Nat)(a:Tm)(b:Int):Option (Tm×Int):=zPO c a b 0>>=λr1=>some (r1.1,r1.2)
theorem zPP{c a b}:Cz (zGv c a b) 252 [] [yL a,ai b] (λr=>.tup [yL r.1,ai r.2]) (λ_=>[]) 0:=fw func252<|rC 1 [] yAM λ_=>fE 3
def sT(k:Int)(i:Nat)(b:Int):Int:=if i=1/\k≠5 then b+1 else b
mutual def i5:Tm->Int->Int->Int->Tm|.mk kd n l,b,c,k=>if kd=1 then .mk 1 (if b<=n then(if n-b<c then n-b else n-b+k)+b else n) []else .mk kd n (lfL l kd 0 b c k)def lfL:List Tm->Int->Nat->Int->Int->Int->List Tm|[],_,_,_,_,_=>[]|t::l,kd,i,b,c,k=>i5 t (sT kd i b) c k::lfL l kd (i+1) b c k end
theorem zKO:∀(l:List Tm)(kd:Int)(i:Nat)(b c k:Int),(lfL l kd i b c k).length=l.length|[],_,_,_,_,_=>by rw[lfL]|t::l,kd,i,b,c,k=>by rw[lfL];exact congrArg (·+1) (zKO l kd (i+1) b c k)
theorem pP(n:Int):zB (λq=>B0 q n) (.mk 1 n []):=zB.mk λ_=>rfl
theorem lX(n:Int):zB (λq=>V5 q n) (.mk 2 n []):=zB.mk λ_=>rfl
mutual theorem X4:∀(t:Tm)(b c k:Int),xF t=true->0<=b->b+t.high<=1152921504606846976->0<=c->c<=1048576->0<=k->k<=1048576->zB (λq=>oZ q t b c k) (i5 t b c k)
 |.mk kd n l,b,c,k,hg,hb,hb2,hc,hc2,hk,hk2=>by
  refine zB.succ ?_;simp only[oZ];have hh:=wO hg;have hn:=mU hh.1;rw[Tm.high]at hb2;rw[i5];by_cases h1:kd=1
  ·rw[if_pos h1];refine zB.ifT (by simpa[Tm.k]using h1) ?_;simp only[Tm.n];by_cases h2:n>=b
   ·refine zB.ifT (by simpa using h2) ?_;rw[if_pos h2,zR (x:=n-b) (by omega) (by omega)];refine zB.bind (a:=if n-b<c then n-b else n-b+k) ?_ ?_
    ·refine zB.mk λq=>?_;unfold i4;by_cases h3:n-b<c;·simp[h3]
     ·simp[h3];exact zR (by omega) (by omega)
    ·rw[zR (by split<;>omega) (by split<;>omega)];exact(pP _).bind zB.ret
   ·refine zB.ifF (by simpa using h2) ?_;rw[if_neg h2];exact(pP _).bind zB.ret
  ·rw[if_neg h1];refine zB.ifF (by simpa[Tm.k]using h1) ?_;exact zGu l (.mk kd n l) 0 b c k [] rfl hh.2 (by have:=hn.2.2.2.2;exact this) hb (by omega) hc hc2 hk hk2 (by simp)theorem zGu:∀(l:List Tm)(p:Tm)(v:Nat)(b c k:Int)(acc:List Tm),p.sub.drop v=l->wR l=true->p.sub.length<=2->0<=b->b+1+wY l<=1152921504606846976->0<=c->c<=1048576->0<=k->k<=1048576->acc.length<=v->zB (λq=>uC q p b c k (v:Int) acc) (.mk p.k p.n (acc++lfL l p.k v b c k))
 |[],p,v,b,c,k,acc,hd,hg,hl,hb,hb2,hc,hc2,hk,hk2,ha=>by refine zB.succ ?_;simp only[uC];exact zB.ifF (zZ hd) (zB.ret.eq (by rw[lfL];simp))|t::l,p,v,b,c,k,acc,hd,hg,hl,hb,hb2,hc,hc2,hk,hk2,ha=>by
  have hlt:=yC hd;have hgc:=wD hg;rw[wY]at hb2;refine zB.succ ?_;simp only[uC];refine zB.ifT (zX hd) (zB.pure (zU hd) ?_);have next:∀(x:Tm),zB (λq=>yR 40 acc [x]>>=λl16=>uC q p b c k (yB ((v:Int)+1)) l16) (.mk p.k p.n (acc++x::lfL l p.k (v+1) b c k)):=λx=>by refine zB.pure (yA (by simp<;>omega)) ?_;rw[zS v (by omega)];refine(zGu l p (v+1) b c k (acc++[x]) (zP hd) hgc.2 hl hb (by omega) hc hc2 hk hk2 (by simp<;>omega)).eq (by simp)
  rw[lfL];by_cases h1:v=1
  ·subst h1;refine zB.ifT rfl ?_;by_cases h5:p.k=5
   ·refine zB.ifF (by simp[h5]) ?_;have e:sT p.k 1 b=b:=by unfold sT;simp[h5]
    rw[e];exact(X4 t b c k hgc.1 hb (by omega) hc hc2 hk hk2).bind (next _)
   ·refine zB.ifT (by simp[h5]) ?_;have e:sT p.k 1 b=b+1:=by unfold sT;simp[h5]
    rw[e,zR (x:=b+1) (by omega) (by omega)];exact(X4 t (b+1) c k hgc.1 (by omega) (by omega) hc hc2 hk hk2).bind (next _)
  ·refine zB.ifF (by simp<;>omega) ?_;have e:sT p.k v b=b:=by unfold sT;simp[h1]
   rw[e];exact(X4 t b c k hgc.1 hb (by omega) hc hc2 hk hk2).bind (next _)end
mutual theorem zIQ:∀(t:Tm)(b c k:Int),t.Ok->(i5 t b c k).Ok
 |.mk kd n l,b,c,k,h=>by
  rw[i5];split;·rw[Tm.Ok,gV];simp
  ·rw[Tm.Ok]at h⊢;rw[zKO];exact⟨h.1,zPQ l kd 0 b c k h.2⟩theorem zPQ:∀(l:List Tm)(kd:Int)(i:Nat)(b c k:Int),gV l->gV (lfL l kd i b c k)|[],_,_,_,_,_,_=>by rw[lfL,gV];trivial|t::l,kd,i,b,c,k,h=>by rw[gV]at h;rw[lfL,gV];exact⟨zIQ t _ c k h.1,zPQ l kd (i+1) b c k h.2⟩end
def aO(n:Int):Bool:=decide (0<=n)&&decide (n<=1048576)
theorem zKP(n:Int):zB (λq=>zPL q n) (aO n):=by
 refine zB.mk λq=>?_;unfold zPL aO;by_cases h:n>=0;·rw[zXF (decide_eq_true h)];simp[show 0<=n from h]
 ·rw[zSS (decide_eq_false h)];simp[show¬0<=n from h]
def zT:Tm:=.mk 0 0 []
def vM(t:Tm)(k c:Int):Tm×Int:=if zJ t=true/\aO k=true/\aO c=true then(if zJ (i5 t 0 c k)=true then(i5 t 0 c k,0)else(zT,2))else(zT,5)
theorem zKQ(t:Tm)(k c:Int)(ho:t.Ok):zB (λq=>zPO q t k c) (vM t k c):=by
 simp only[zPO];refine(xI t ho).bind ?_;unfold vM;by_cases h1:zJ t=true
 ·refine zB.ifT h1 ((zKP k).bind ?_);by_cases h2:aO k=true
  ·refine zB.ifT h2 ((zKP c).bind ?_);by_cases h3:aO c=true
   ·rw[if_pos ⟨h1,h2,h3⟩];have hs:=zO h1;have h2':=h2;have h3':=h3;unfold aO at h2' h3';simp only[Bool.and_eq_true,decide_eq_true_eq]at h2' h3';refine zB.ifT h3 ((X4 t 0 c k hs.2.2 (by omega) (by omega) h3'.1 h3'.2 h2'.1 h2'.2).bind ((xI _ (zIQ t 0 c k ho)).bind ?_));by_cases h4:zJ (i5 t 0 c k)=true;·rw[if_pos h4,if_pos h4];exact zB.ret
    ·rw[if_neg h4,if_neg h4];exact zB.ret
   ·rw[if_neg (λh=>h3 h.2.2)];exact zB.ifF (by simpa using h3) zB.ret
  ·rw[if_neg (λh=>h2 h.2.1)];exact zB.ifF (by simpa using h2) zB.ret
 ·rw[if_neg (λh=>h1 h.1)];exact zB.ifF (by simpa using h1) zB.ret
theorem eF(t:Tm)(k c:Int)(ho:t.Ok):(vM t k c).1.Ok:=by
 have hz:zT.Ok:=by unfold zT;rw[Tm.Ok,gV];simp
 unfold vM;split
 ·split;·exact zIQ t 0 c k ho
  ·exact hz
 ·exact hz
theorem zGt(t:Tm)(k:Int)(ho:t.Ok):zB (λq=>zGv q t k) (vM t k 0):=by simp only[zGv];exact(zKQ t k 0 ho).bind zB.ret
def raT(a:Tm)(by' left:Int)(long:Bool):Tm×Int×Bool:=if left-szT a 0<0 then(.mk 2 0 [],left-szT a 0,true)else if(vM a by' 0).2≠0 then(.mk 2 0 [],left-szT a 0,true)else((vM a by' 0).1,left-szT a 0,long)
mutual def C8(ls:List Tm):Tm->Int->Int->Bool->Tm×Int×Bool|.mk kd n l,b,left,long=>if long=true then(.mk 2 0 [],left,long)else if kd=1/\b<=n then(if h:(n-b).toNat<ls.length then raT (ls[(n-b).toNat]) b left long else(.mk 1 (n-ls.length) [],left,long))else let r:=S7 ls l kd 0 b (left-1) (decide (left-1<0))
  (.mk kd n r.1,r.2.1,r.2.2)def S7(ls:List Tm):List Tm->Int->Nat->Int->Int->Bool->List Tm×Int×Bool|[],_,_,_,left,long=>([],left,long)|t::l,kd,i,b,left,long=>let x:=C8 ls t (sT kd i b) left long
 let r:=S7 ls l kd (i+1) b x.2.1 x.2.2
 (x.1::r.1,r.2.1,r.2.2)end
def mX(left:Int)(long:Bool):Prop:=-8193<=left/\left<=8192/\(long=false->0<=left)
theorem zPR{a:Tm}{by' left:Int}(h:mX left false):mX (raT a by' left false).2.1 (raT a by' left false).2.2:=by
 have:=zFf a 0 (by omega) (by omega);have h0:=h.2.2 rfl;have h1:=h.2.1;unfold raT mX;split;·exact⟨by simp only;omega,by simp only;omega,λh=>by cases h⟩
 ·split;·exact⟨by simp only;omega,by simp only;omega,λh=>by cases h⟩
  ·exact⟨by simp only;omega,by simp only;omega,λ_=>by simp only;omega⟩
def zGs(d:Nat)(a:Int)(b:Bool)(c:yI):Option (Unit):=some ()
theorem zPS{d a b c}:Cz (zGs d a b c) 288 [.cells [ai a,ab b,.val .nilFunc],.cells [zC zA c .no]] [.mp 0 0,.mp 1 0] (λ_=>.clo 289 [] [.mp 1 0,.mp 2 0]) (λ_=>[.cells [ai a,ab b,.val .nilFunc],.cells [zC zA c .no],.cells [.mp 0 0]]) 0:=fw func288<|fF 0 [0,1,2]
def zTp(c:Nat)(a:Tm)(b:Int):Option (Int):=if a.k !=1 then some (-1)else if decide (a.n<b)then some (-1)else some (yB (a.n-b))
theorem yDn{c a b}:Cz (zTp c a b) 290 [] [yL a,ai b] (λr=>ai r) (λ_=>[]) 0:=fw func290<|rB 1 (fE 0)<|rB 1 (fE 0)<|fE 2
def F4(b:Nat)(a:Int)(d:Bool)(e:yI)(c:Tm)(f:Int):Option (Tm×Int×Bool):=zPB b c>>=λr1=>if decide ((yB (a-r1))<0)then V5 b 0>>=λr4=>some (r4,(yB (a-r1)),true)else zGv b c f>>=λr6=>if r6.2 !=0 then V5 b 0>>=λr9=>some (r9,(yB (a-r1)),true)else some (r6.1,(yB (a-r1)),d)
theorem zPT{b a d e c f}:Cz (F4 b a d e c f) 291 [.cells [ai a,ab d,.clo 289 [] [.mp 1 0,.mp 2 0]],.cells [zC zA e .no],.cells [.mp 0 0]] [.mp 0 0,yL c,ai f] (λr=>yL r.1) (λr=>[.cells [ai r.2.1,ab r.2.2,.clo 289 [] [.mp 1 0,.mp 2 0]],.cells [zC zA e .no],.cells [.mp 0 0]]) 0:=fw func291<|rS (gR 0)<|rC 1 [] yAF λ_=>rB 3 (rC 1 [] zGw λ_=>fE 1)<|rC 1 [] zPP λ_=>rB 3 (rC 1 [] zGw λ_=>fE 1)<|fE 2
def jH(d:Nat)(e:Tm)(f:Int)(a:yI)(b:Int)(c:Bool):Option (Tm×Bool×Int×Bool):=zTp d e f>>=λr1=>if decide (r1<0)then some ((Tm.mk 0 0 []),false,b,c)else if decide (r1<(a.length:Int))then zL a r1>>=λx5=>F4 d b c a x5 f>>=λr7=>some (r7.1,true,r7.2.1,r7.2.2)else B0 d (yB (e.n-(a.length:Int)))>>=λr9=>some (r9,true,b,c)
theorem zPU{d e f a b c}:Cz (jH d e f a b c) 289 [.cells [zC zA a .no],.cells [.mp 2 0],.cells [ai b,ab c,.clo 289 [] [.mp 0 0,.mp 1 0]]] [yL e,ai f,.mp 0 0,.mp 1 0] (λr=>.tup [yL r.1,ab r.2.1]) (λr=>[.cells [zC zA a .no],.cells [.mp 2 0],.cells [ai r.2.2.1,ab r.2.2.2,.clo 289 [] [.mp 0 0,.mp 1 0]]]) 0:=fw func289<|rC 1 [] yDn λ_=>rB 0 (fE 1)<|rB 2 (rA 2 (yP (o:=.no)) λ_=>rC 1 [2,0,1] zPT λ_=>fE 1)<|rC 4 [] eE λ_=>fE 1
mutual def nA:Nat->Int->Bool->yI->Tm->Int->Option (Tm×Int×Bool)|0,_,_,_,_,_=>none|m+1,q,p,e,d,f=>if p then V5 m 0>>=λr2=>some (r2,q,p)else jH m d f e q p>>=λr4=>if r4.2.1 then some (r4.1,r4.2.2.1,r4.2.2.2)else if decide ((yB (r4.2.2.1-1))<0)then vC m e d f 0 (yB (r4.2.2.1-1)) true []else vC m e d f 0 (yB (r4.2.2.1-1)) r4.2.2.2 []def vC:Nat->yI->Tm->Int->Int->Int->Bool->yI->Option (Tm×Int×Bool)
 |0,_,_,_,_,_,_,_=>none|m+1,e,d,f,g,a,b,c=>if decide (g<(d.sub.length:Int))then zL d.sub g>>=λx9=>if g==1 then if d.k !=5 then nA m a b e x9 (yB (f+1))>>=λr13=>yR 40 c [r13.1]>>=λl15=>vC m e d f (yB (g+1)) r13.2.1 r13.2.2 l15 else nA m a b e x9 f>>=λr17=>yR 40 c [r17.1]>>=λl19=>vC m e d f (yB (g+1)) r17.2.1 r17.2.2 l19 else nA m a b e x9 f>>=λr21=>yR 40 c [r21.1]>>=λl23=>vC m e d f (yB (g+1)) r21.2.1 r21.2.2 l23 else some ((Tm.mk d.k d.n c),a,b)end
theorem aD:∀m:Nat,(∀q p e d f,Cz (nA m q p e d f) 315 [.cells [ai q,ab p,.clo 289 [] [.mp 1 0,.mp 2 0]],.cells [zC zA e .no],.cells [.mp 0 0]] [.mp 0 0,yL d,ai f] (λr=>yL r.1) (λr=>[.cells [ai r.2.1,ab r.2.2,.clo 289 [] [.mp 1 0,.mp 2 0]],.cells [zC zA e .no],.cells [.mp 0 0]]) 0)/\(∀e d f g a b c,Lz (vC m e d f g a b c) 3 f315 (pt 262069 f315) (λj=>sp j 79 0 [(0,.mp 0 0),(2,ai f),(4,.mp 3 0),(6,.mp 4 0),(9,.mp 5 0),(51,zC zA d.sub .no),(52,ai (d.sub.length:Int)),(53,ai g)]) ⟨[(0,.cells [ai a,ab b,.clo 289 [] [.mp 1 0,.mp 2 0]]),(1,.cells [zC zA e .no]),(2,.cells [.mp 0 0]),(3,.cells [ai d.k,ai d.n,zC zA d.sub .no]),(4,.cells [ai 0,ai 0,zC zA ([]:yI) .nl]),(5,.cells [ai d.k,ai d.n,zC zA c (.st 0 3)])],6,[0],1,[]⟩ (λr=>yL r.1) (λr=>[.cells [ai r.2.1,ab r.2.2,.clo 289 [] [.mp 1 0,.mp 2 0]],.cells [zC zA e .no],.cells [.mp 0 0]]) 0 [.blk 0,.seq (pt 4095 f315)]):=yS ⟨λ_ _ _ _ _=>cN,λ_ _ _ _ _ _ _=>lN⟩ λm ih=>⟨λq p e d f=>fw func315<|rB 0 (rC 0 [] zGw λ_=>fE 1)<|rC 2 [1,2,0] zPU λ_=>rB 1 (fE 3)<|rB 5 (fH 6 [(some 6,2,3)] [0,1,2,3,4,6] [0] [0,2,4,6,9,51,52,53] (ih.2 _ _ _ _ _ _ _))<|fH 5 [(some 6,2,3)] [0,1,2,3,4,6] [0] [0,2,4,6,9,51,52,53] (ih.2 _ _ _ _ _ _ _),λe d f g a b c=>lw λ_=>rB 0 (rA 0 (yP (o:=.no)) λ_=>rB 2 (rB 1 (rS (gR 1)<|rC 1 [0,1,2] (ih.1 _ _ _ _ _) λr13=>rS (oS 0 (yZ xO [r13.1]))<|rW (λh16=>oP 0 (xY h16 (by simp))) λ_=>lH 2 [] [0,1,2,3,4,5] [1] [0,2,4,6,9,51,52,53] (ih.2 _ _ _ _ _ _ _))<|rS (gR 0)<|rC 1 [0,1,2] (ih.1 _ _ _ _ _) λr17=>rS (oS 0 (yZ xO [r17.1]))<|rW (λh20=>oP 0 (xY h20 (by simp))) λ_=>lH 2 [] [0,1,2,3,4,5] [1] [0,2,4,6,9,51,52,53] (ih.2 _ _ _ _ _ _ _))<|rS (gR 0)<|rC 1 [0,1,2] (ih.1 _ _ _ _ _) λr21=>rS (oS 0 (yZ xO [r21.1]))<|rW (λh24=>oP 0 (xY h24 (by simp))) λ_=>lH 2 [] [0,1,2,3,4,5] [1] [0,2,4,6,9,51,52,53] (ih.2 _ _ _ _ _ _ _))<|lE 2⟩
theorem zPV{m q p e d f}:Cz (nA m q p e d f) 315 [.cells [ai q,ab p,.clo 289 [] [.mp 1 0,.mp 2 0]],.cells [zC zA e .no],.cells [.mp 0 0]] [.mp 0 0,yL d,ai f] (λr=>yL r.1) (λr=>[.cells [ai r.2.1,ab r.2.2,.clo 289 [] [.mp 1 0,.mp 2 0]],.cells [zC zA e .no],.cells [.mp 0 0]]) 0:=(aD _).1 _ _ _ _ _
def F5(b:Nat)(c:Tm)(a:yI):Option (Tm×Int):=zGs b 8192 false a>>=λr1=>nA b 8192 false a c 0>>=λr3=>if r3.2.2 then some ((Tm.mk 0 0 []),2)else rJ b r3.1>>=λr6=>if r6 then some (r3.1,0)else some ((Tm.mk 0 0 []),2)
theorem zPW{b c a}:Cz (F5 b c a) 287 [.cells [zC zA a .no]] [yL c,.clo 288 [] [.mp 0 0]] (λr=>.tup [yL r.1,ai r.2]) (λ_=>[.cells [zC zA a .no]]) 0:=fw func287<|rC 0 [3,0] zPS λ_=>rC 2 [3,0,4] zPV λ_=>rB 1 (fE 1)<|rK 1 [] qQ (λ_=>fE 3) λ_=>fE 2
def dY:Nat->Tm->yI->Int->Option (Tm×Int)|0,_,_,_=>none|d+1,c,a,b=>if decide (b<(a.length:Int))then zL a b>>=λx5=>rJ d x5>>=λr7=>if r7 then dY d c a (yB (b+1))else some ((Tm.mk 0 0 []),5)else F5 d c a>>=λr10=>some (r10.1,r10.2)
def zPX(d:Nat)(c:Tm)(a:yI):Option (Tm×Int):=rJ d c>>=λr1=>if r1 then dY d c a 0 else some ((Tm.mk 0 0 []),5)
theorem zTo:∀d:Nat,∀c a b,Lz (dY d c a b) 0 f245 (pt 4021 f245) (λj=>sp j 28 0 [(2,.mp 0 0),(3,.mp 1 0),(4,.mp 2 0),(12,zC zA a .no),(13,ai (a.length:Int)),(14,ai b)]) ⟨[(0,.cells [ai c.k,ai c.n,zC zA c.sub .no]),(1,.cells [zC zA a .no]),(2,.cells [ai 0,ai 0,zC zA ([]:yI) .nl])],3,[],0,[]⟩ (λr=>.tup [yL r.1,ai r.2]) (λ_=>[]) 0 [.blk 0,.seq (pt 63 f245)]:=yS (λ_ _ _=>lN) λd ih=>λc a b=>lw λ_=>rB 0 (rA 0 (yP (o:=.no)) λ_=>rK 3 [] qQ (λ_=>lH 2 [] [0,1,2] [] [2,3,4,12,13,14] (ih _ _ _)) λ_=>lE 2)<|rC 1 [1] zPW λ_=>lE 3
theorem yAN{d c a}:Cz (zPX d c a) 245 [] [yL c,zC zA a .no] (λr=>.tup [yL r.1,ai r.2]) (λ_=>[]) 0:=fw func245<|rK 1 [] qQ (λ_=>fH 3 [] [0,1,2] [] [2,3,4,12,13,14] (zTo _ _ _ _)) λ_=>fE 2
def zPY(c:Nat)(b a:Tm):Option (Tm×Int):=zPX c b [a]>>=λr1=>some (r1.1,r1.2)
theorem yAO{c b a}:Cz (zPY c b a) 270 [] [yL b,yL a] (λr=>.tup [yL r.1,ai r.2]) (λ_=>[]) 0:=fw func270<|rS (oS 2 (yZ xO [a]))<|rC 0 [] yAN λ_=>fE 3
theorem S8:zT.Ok:=by unfold zT;rw[Tm.Ok,gV];simp
theorem yW(k n:Int):(Tm.mk k n []).Ok:=by rw[Tm.Ok,gV];simp
theorem zME(ls:List Tm)(a:Tm)(b left:Int)(long:Bool)(ho:a.Ok)(hl:mX left long):zB (λq=>F4 q left long ls a b) (raT a b left long):=by
 simp only[F4];have hs:=zFf a 0 (by omega) (by omega);have h1:=hl.1;have h2:=hl.2.1;refine(zKL a ho).bind ?_;rw[zR (x:=left-szT a 0) (by omega) (by omega)];unfold raT;by_cases h:left-szT a 0<0;·rw[if_pos h];exact zB.ifT (decide_eq_true h) ((lX 0).bind zB.ret)
 ·rw[if_neg h];refine zB.ifF (decide_eq_false h) ((zGt a b ho).bind ?_);by_cases h3:(vM a b 0).2≠0;·rw[if_pos h3];exact zB.ifT (by simpa using h3) ((lX 0).bind zB.ret)
  ·rw[if_neg h3];exact zB.ifF (by simpa using h3) zB.ret
mutual theorem X5(ls:List Tm):∀(t:Tm)(b left:Int)(long:Bool),mX left long->mX (C8 ls t b left long).2.1 (C8 ls t b left long).2.2|.mk kd n l,b,left,long,h=>by rw[C8];cases long with|true=>simpa using h|false=>
 rw[if_neg (by simp)];split
 ·split;·exact zPR h
  ·exact h
 ·have h0:=h.2.2 rfl;have h1:=h.2.1;refine zGr ls l kd 0 b _ _ ⟨by omega,by omega,λh2=>?_⟩;simp at h2;omega theorem zGr(ls:List Tm):∀(l:List Tm)(kd:Int)(i:Nat)(b left:Int)(long:Bool),mX left long->mX (S7 ls l kd i b left long).2.1 (S7 ls l kd i b left long).2.2|[],kd,i,b,left,long,h=>by rw[S7];exact h|t::l,kd,i,b,left,long,h=>by rw[S7];exact zGr ls l kd (i+1) b _ _ (X5 ls t _ left long h)end
theorem zKR(ls:List Tm):∀(l:List Tm)(kd:Int)(i:Nat)(b left:Int)(long:Bool),(S7 ls l kd i b left long).1.length=l.length|[],_,_,_,_,_=>by rw[S7]|t::l,kd,i,b,left,long=>by rw[S7];exact congrArg (·+1) (zKR ls l kd (i+1) b _ _)
theorem zXP(a:Tm)(b left:Int)(long:Bool)(h:a.Ok):(raT a b left long).1.Ok:=by
 unfold raT;split;·exact yW _ _
 ·split;·exact yW _ _
  ·exact eF a b 0 h
mutual theorem zIR(ls:List Tm)(hls:∀a∈ls,a.Ok):∀(t:Tm)(b left:Int)(long:Bool),t.Ok->(C8 ls t b left long).1.Ok
 |.mk kd n l,b,left,long,h=>by
  rw[C8];split;·exact yW _ _
  ·split
   ·split;·exact zXP _ _ _ _ (hls _ (List.getElem_mem _))
    ·exact yW _ _
   ·rw[Tm.Ok]at h⊢;rw[zKR];exact⟨h.1,zPZ ls hls l kd 0 b _ _ h.2⟩theorem zPZ(ls:List Tm)(hls:∀a∈ls,a.Ok):∀(l:List Tm)(kd:Int)(i:Nat)(b left:Int)(long:Bool),gV l->gV (S7 ls l kd i b left long).1|[],_,_,_,_,_,_=>by rw[S7,gV];trivial|t::l,kd,i,b,left,long,h=>by rw[gV]at h;rw[S7,gV];exact⟨zIR ls hls t _ _ _ h.1,zPZ ls hls l kd (i+1) b _ _ h.2⟩end
mutual theorem zKS(ls:List Tm)(hls:∀a∈ls,a.Ok)(hlen:ls.length<=1152921504606846976):∀(t:Tm)(b left:Int)(long:Bool),xF t=true->0<=b->b+t.high<=1152921504606846976->mX left long->zB (λq=>nA q left long ls t b) (C8 ls t b left long)|.mk kd n l,b,left,long,hg,hb,hb2,hl=>by refine zB.succ ?_;simp only[nA];have hh:=wO hg;have hn:=mU hh.1;rw[Tm.high]at hb2;rw[C8];cases long with|true=>exact zB.ifT rfl ((lX 0).bind (zB.ret.eq (by simp)))|false=>
   refine zB.ifF rfl ?_;rw[if_neg (by simp)];have hloose:zB (λq=>zTp q (.mk kd n l) b) (if kd=1/\b<=n then n-b else-1):=by
    refine zB.mk λq=>?_;unfold zTp;simp only[Tm.k,Tm.n];by_cases h1:kd=1
    ·by_cases h2:n<b;·simp[h1,h2,show¬b<=n by omega]
     ·simp[h1,h2,show b<=n by omega];exact zR (by omega) (by omega)
    ·simp[h1]
   by_cases h1:kd=1/\b<=n
   ·rw[if_pos h1]at hloose⊢;have hleaf:zB (λq=>jH q (.mk kd n l) b ls left false) (let r:=(if h:(n-b).toNat<ls.length then raT (ls[(n-b).toNat]) b left false else(.mk 1 (n-ls.length) [],left,false));(r.1,true,r.2.1,r.2.2)):=by
     simp only[jH];refine hloose.bind (zB.ifF (decide_eq_false (by omega)) ?_);by_cases h2:(n-b).toNat<ls.length
     ·rw[dif_pos h2];refine zB.ifT (decide_eq_true (by omega)) (zB.pure (a:=ls[(n-b).toNat]) ?_ ((zME ls _ b left false (hls _ (List.getElem_mem _)) hl).bind zB.ret));unfold zL;rw[if_pos (by omega)];exact List.getElem?_eq_getElem h2
     ·rw[dif_neg h2];refine zB.ifF (decide_eq_false (by omega)) ?_;simp only[Tm.n];rw[zR (by omega) (by omega)];exact(pP _).bind zB.ret
    exact hleaf.bind (zB.ifT rfl zB.ret)
   ·rw[if_neg h1]at hloose⊢;have hleaf:zB (λq=>jH q (.mk kd n l) b ls left false) (.mk 0 0 [],false,left,false):=by simp only[jH];exact hloose.bind (zB.ifT rfl zB.ret)
    refine hleaf.bind (zB.ifF rfl ?_);have h0:=hl.2.2 rfl;have h3:=hl.2.1;rw[zR (x:=left-1) (by omega) (by omega)];have go:∀lg:Bool,lg=decide (left-1<0)->zB (λq=>vC q ls (.mk kd n l) b 0 (left-1) lg []) (let r:=S7 ls l kd 0 b (left-1) (decide (left-1<0));(.mk kd n r.1,r.2.1,r.2.2)):=λlg hlg=>by subst hlg;refine(zQz ls hls hlen l (.mk kd n l) 0 b (left-1) _ [] rfl hh.2 (by have:=hn.2.2.2.2;exact this) hb (by omega) ⟨by omega,by omega,λh2=>?_⟩ (by simp)).eq (by simp[Tm.k,Tm.n]);simp at h2;omega
    by_cases h4:left-1<0;·exact zB.ifT (decide_eq_true h4) (go true (by simp[h4]))
    ·exact zB.ifF (decide_eq_false h4) (go false (by simp[h4]))theorem zQz(ls:List Tm)(hls:∀a∈ls,a.Ok)(hlen:ls.length<=1152921504606846976):∀(l:List Tm)(p:Tm)(v:Nat)(b left:Int)(long:Bool)(acc:List Tm),p.sub.drop v=l->wR l=true->p.sub.length<=2->0<=b->b+1+wY l<=1152921504606846976->mX left long->acc.length<=v->zB (λq=>vC q ls p b (v:Int) left long acc) (.mk p.k p.n (acc++(S7 ls l p.k v b left long).1),(S7 ls l p.k v b left long).2.1,(S7 ls l p.k v b left long).2.2)
 |[],p,v,b,left,long,acc,hd,hg,hl2,hb,hb2,hl,ha=>by refine zB.succ ?_;simp only[vC];exact zB.ifF (zZ hd) (zB.ret.eq (by rw[S7];simp))|t::l,p,v,b,left,long,acc,hd,hg,hl2,hb,hb2,hl,ha=>by
  have hlt:=yC hd;have hgc:=wD hg;rw[wY]at hb2;refine zB.succ ?_;simp only[vC];refine zB.ifT (zX hd) (zB.pure (zU hd) ?_);have next:∀x:Tm×Int×Bool,mX x.2.1 x.2.2->zB (λq=>yR 40 acc [x.1]>>=λl15=>vC q ls p b (yB ((v:Int)+1)) x.2.1 x.2.2 l15) (.mk p.k p.n (acc++x.1::(S7 ls l p.k (v+1) b x.2.1 x.2.2).1),(S7 ls l p.k (v+1) b x.2.1 x.2.2).2.1,(S7 ls l p.k (v+1) b x.2.1 x.2.2).2.2):=λx hx=>by refine zB.pure (yA (by simp<;>omega)) ?_;rw[zS v (by omega)];exact(zQz ls hls hlen l p (v+1) b x.2.1 x.2.2 (acc++[x.1]) (zP hd) hgc.2 hl2 hb (by omega) hx (by simp<;>omega)).eq (by simp)
  rw[S7];by_cases h1:v=1
  ·subst h1;refine zB.ifT rfl ?_;by_cases h5:p.k=5
   ·refine zB.ifF (by simp[h5]) ?_;have e:sT p.k 1 b=b:=by unfold sT;simp[h5]
    rw[e];exact(zKS ls hls hlen t b left long hgc.1 hb (by omega) hl).bind (next _ (X5 ls t b left long hl))
   ·refine zB.ifT (by simp[h5]) ?_;have e:sT p.k 1 b=b+1:=by unfold sT;simp[h5]
    rw[e,zR (x:=b+1) (by omega) (by omega)];exact(zKS ls hls hlen t (b+1) left long hgc.1 (by omega) (by omega) hl).bind (next _ (X5 ls t (b+1) left long hl))
  ·refine zB.ifF (by simp<;>omega) ?_;have e:sT p.k v b=b:=by unfold sT;simp[h1]
   rw[e];exact(zKS ls hls hlen t b left long hgc.1 hb (by omega) hl).bind (next _ (X5 ls t b left long hl))end
def eG(t:Tm)(ls:List Tm):Tm×Int:=if zJ t=true/\(ls.all zJ)=true then(if(C8 ls t 0 8192 false).2.2=true then(zT,2)else if zJ (C8 ls t 0 8192 false).1=true then((C8 ls t 0 8192 false).1,0)else(zT,2))else(zT,5)
theorem zXQ(t:Tm)(ls:List Tm)(h:zJ t=true)(ho:t.Ok)(hls:∀a∈ls,a.Ok)(hlen:ls.length<=1152921504606846976):zB (λq=>F5 q t ls) (if(C8 ls t 0 8192 false).2.2=true then(zT,2)else if zJ (C8 ls t 0 8192 false).1=true then((C8 ls t 0 8192 false).1,0)else(zT,2)):=by
 simp only[F5];have hs:=zO h;refine zB.bind (a:=()) (zB.mk λ_=>rfl) ((zKS ls hls hlen t 0 8192 false hs.2.2 (by omega) (by omega) ⟨by omega,by omega,λ_=>by omega⟩).bind ?_);by_cases h1:(C8 ls t 0 8192 false).2.2=true;·rw[if_pos h1];exact zB.ifT h1 zB.ret
 ·rw[if_neg h1];refine zB.ifF (by simpa using h1) ((xI _ (zIR ls hls t 0 8192 false ho)).bind ?_);by_cases h2:zJ (C8 ls t 0 8192 false).1=true;·rw[if_pos h2,if_pos h2];exact zB.ret
  ·rw[if_neg h2,if_neg h2];exact zB.ret
theorem zGq(t:Tm)(ls:List Tm)(h:zJ t=true)(ho:t.Ok)(hls:∀a∈ls,a.Ok)(hlen:ls.length<=1152921504606846976):∀(r:List Tm)(v:Nat),ls.drop v=r->zB (λq=>dY q t ls (v:Int)) (if(r.all zJ)=true then(if(C8 ls t 0 8192 false).2.2=true then(zT,2)else if zJ (C8 ls t 0 8192 false).1=true then((C8 ls t 0 8192 false).1,0)else(zT,2))else(zT,5))
 |[],v,hd=>by refine zB.succ ?_;simp only[dY];exact zB.ifF (zZ hd) ((zXQ t ls h ho hls hlen).bind (zB.ret.eq (by simp)))|x::r,v,hd=>by
  have hlt:=yC hd;have hx:x∈ls:=by
   have:x∈ls.drop v:=by rw[hd];simp
   exact List.mem_of_mem_drop this
  refine zB.succ ?_;simp only[dY];refine zB.ifT (zX hd) (zB.pure (zU hd) ((xI x (hls x hx)).bind ?_));by_cases h1:zJ x=true
  ·refine zB.ifT h1 ?_;rw[zS v (by omega)];exact(zGq t ls h ho hls hlen r (v+1) (zP hd)).eq (by simp[h1])
  ·exact zB.ifF (by simpa using h1) (zB.ret.eq (by simp[h1,zT]))
theorem zKT(t:Tm)(ls:List Tm)(ho:t.Ok)(hls:∀a∈ls,a.Ok)(hlen:ls.length<=1152921504606846976):zB (λq=>zPX q t ls) (eG t ls):=by
 simp only[zPX];refine(xI t ho).bind ?_;unfold eG;by_cases h:zJ t=true
 ·refine zB.ifT h ((zGq t ls h ho hls hlen ls 0 rfl).eq ?_);simp[h]
 ·exact zB.ifF (by simpa using h) (zB.ret.eq (by simp[h,zT]))
theorem zQy(t a:Tm)(ho:t.Ok)(ha:a.Ok):zB (λq=>zPY q t a) (eG t [a]):=by simp only[zPY];exact(zKT t [a] ho (by simpa using ha) (by simp)).bind zB.ret
theorem zDT(t:Tm)(ls:List Tm)(ho:t.Ok)(hls:∀a∈ls,a.Ok):(eG t ls).1.Ok:=by
 unfold eG;split
 ·split;·exact S8
  ·split;·exact zIR ls hls t 0 8192 false ho
   ·exact S8
 ·exact S8
def dZ:Nat->Int->Int->(Tm×yI)->Int->Option (Bool)
 |0,_,_,_,_=>none|d+1,b,c,r1,a=>if decide (a<b)then zL r1.2 a>>=λx7=>if x7.k !=1 then some false else if x7.n !=(yB ((yB (c-1))-a))then some false else dZ d b c r1 (yB (a+1))else some true
def zMF(d:Nat)(e:Tm)(f b g c:Int):Option (Bool):=jF d e>>=λr1=>if r1.1.k !=6 then some false else if r1.1.n !=f then some false else if(r1.2.length:Int)!=(yB (b+g))then some false else dZ d b c r1 0
theorem zTn:∀d:Nat,∀b c r1 a,Lz (dZ d b c r1 a) 0 f209 (pt 16309 f209) (λj=>sp j 59 0 [(4,ai c),(12,zC zA r1.2 .no),(36,ai b),(37,ai a)]) ⟨[],0,[],0,[]⟩ (λr=>ab r) (λ_=>[]) 0 [.blk 0,.seq (pt 255 f209)]:=yS (λ_ _ _ _=>lN) λd ih=>λb c r1 a=>lw λ_=>rB 0 (rH λ_ h8=>rS (oA 0 (yP (o:=.no) h8))<|rB 1 (lE 0)<|rS (oA 0 (yP (o:=.no) h8))<|rB 3 (lE 0)<|lH 1 [] [] [] [4,12,36,37] (ih _ _ _ _))<|lE 0
theorem zXR{d e f b g c}:Cz (zMF d e f b g c) 209 [] [yL e,ai f,ai b,ai g,ai c] (λr=>ab r) (λ_=>[]) 0:=fw func209<|rC 1 [] V4 λ_=>rB 4 (fE 0)<|rB 1 (fE 0)<|rB 2 (fE 0)<|fH 0 [] [] [] [4,12,36,37] (zTn _ _ _ _ _)
def N2:Nat->Int->Int->yI->Int->Int->yI->Option (yI×Tm×Int)|0,_,_,_,_,_,_=>none|f+1,d,e,g,b,c,a=>if decide (e<d)then if b !=3 then some ([],(Tm.mk 0 0 []),6)else zL a 0>>=λx10=>yR 40 g [x10]>>=λl12=>zL a 1>>=λx14=>N2 f d (yB (e+1)) l12 x14.k x14.n x14.sub else some (g,(Tm.mk b c a),0)
def e91(f:Nat)(m:Tm)(d:Int):Option (yI×Tm×Int):=rJ f m>>=λr1=>if r1 then if decide (d<0)then some ([],(Tm.mk 0 0 []),5)else if decide (d>24)then some ([],(Tm.mk 0 0 []),2)else e96 f m>>=λr6=>N2 f d 0 [] r6.k r6.n r6.sub else some ([],(Tm.mk 0 0 []),5)
theorem zXS:∀f:Nat,∀d e g b c a,Lz (N2 f d e g b c a) 0 f91 (pt 65461 f91) (λj=>sp j 45 0 [(5,.mp 0 0),(7,zC zA g (.st 0 3)),(8,.mp 1 0),(24,ai d),(25,ai e)]) ⟨[(0,.cells [ai 0,ai 0,zC zA ([]:yI) .nl]),(1,.cells [ai b,ai c,zC zA a .no])],2,[0],1,[]⟩ (λr=>.tup [.sl (zH zA r.1) r.1.length .no,yL r.2.1,ai r.2.2]) (λ_=>[]) 0 [.blk 1,.seq (pt 1023 f91)]:=yS (λ_ _ _ _ _ _=>lN) λf ih=>λd e g b c a=>lw λ_=>rB 0 (rB 1 (lE 1)<|rA 1 (yP (o:=.no)) λx10=>rS (oS 1 (yZ xO [x10]))<|rW (λh13=>oP 0 (xY h13 (by simp))) λ_=>rA 1 (yP (o:=.no)) λ_=>lH 3 [] [0,1] [1] [5,7,8,24,25] (ih _ _ _ _ _ _))<|lE 2
theorem c91{f m d}:Cz (e91 f m d) 91 [] [yL m,ai d] (λr=>.tup [.sl (zH zA r.1) r.1.length .no,yL r.2.1,ai r.2.2]) (λ_=>[]) 0:=fw func91<|rK 1 [] qQ (λ_=>rB 1 (fE 1)<|rB 0 (fE 1)<|rC 1 [] c96 λ_=>fH 1 [(none,7,3)] [1,2] [0] [5,7,8,24,25] (zXS _ _ _ _ _ _ _)) λ_=>fE 2
def N3:Nat->Tm->Int->Int->Int->yI->Option (yI×Tm×Int)|0,_,_,_,_,_=>none|e+1,d,f,b,c,a=>if b==3 then if(a.length:Int)==2 then if decide (f<=24)then zL a 1>>=λx4=>N3 e d (yB (f+1)) x4.k x4.n x4.sub else e91 e d f>>=λr6=>some (r6.1,r6.2.1,r6.2.2)else e91 e d f>>=λr8=>some (r8.1,r8.2.1,r8.2.2)else e91 e d f>>=λr10=>some (r10.1,r10.2.1,r10.2.2)
def e99(e:Nat)(d:Tm):Option (yI×Tm×Int):=N3 e d 0 d.k d.n d.sub
theorem zXT:∀e:Nat,∀d f b c a,Lz (N3 e d f b c a) 0 f99 (pt 4021 f99) (λj=>sp j 34 0 [(1,.mp 0 0),(3,.mp 1 0),(5,ai f),(6,.mp 2 0)]) ⟨[(0,.cells [ai d.k,ai d.n,zC zA d.sub .no]),(1,.cells [ai 0,ai 0,zC zA ([]:yI) .nl]),(2,.cells [ai b,ai c,zC zA a .no])],3,[],0,[]⟩ (λr=>.tup [.sl (zH zA r.1) r.1.length .no,yL r.2.1,ai r.2.2]) (λ_=>[]) 0 [.blk 0,.seq (pt 63 f99)]:=yS (λ_ _ _ _ _=>lN) λe ih=>λd f b c a=>lw λ_=>rB 1 (rB 2 (rB 0 (rA 4 (yP (o:=.no)) λ_=>lH 2 [] [0,1,3] [] [1,3,5,6] (ih _ _ _ _ _))<|rC 1 [] c91 λ_=>lE 4)<|rC 1 [] c91 λ_=>lE 4)<|rC 1 [] c91 λ_=>lE 4
theorem c99{e d}:Cz (e99 e d) 99 [] [yL d] (λr=>.tup [.sl (zH zA r.1) r.1.length .no,yL r.2.1,ai r.2.2]) (λ_=>[]) 0:=fw func99<|fH 2 [] [0,1,2] [] [1,3,5,6] (zXT _ _ _ _ _ _)
def uZ:Nat->Tm->Option (List Tm×Tm)|0,t=>some ([],t)|n+1,.mk k _ [a,b]=>if k=3 then(uZ n b).map λr=>(a::r.1,r.2)else none|_+1,_=>none
theorem pZ(n:Nat)(m:Int)(a b:Tm):uZ (n+1) (.mk 3 m [a,b])=(uZ n b).map λr=>(a::r.1,r.2):=by rw[uZ,if_pos rfl]
theorem mY{n:Nat}{t:Tm}(h:t.k≠3):uZ (n+1) t=none:=by
 unfold uZ;split;·rename_i h1;cases h1
 ·rename_i h1;exact if_neg h
 ·rfl
theorem rM{t:Tm}(hg:xF t=true)(h:t.k=3):∃a b,t=.mk 3 t.n [a,b]/\xF a=true/\xF b=true:=by obtain⟨k,n,l⟩:=t;have hh:=wO hg;have hs:=tK hh.1;replace h:k=3:=h;subst h;obtain⟨a,b,rfl⟩:=zPJ (hs.2.2.2.2.2.1 (.inl rfl)).1;have hc:=wD hh.2;exact⟨a,b,rfl,hc.1,(wD hc.2).1⟩
def aE(acc:List Tm):Option (List Tm×Tm)->List Tm×Tm×Int|none=>([],zT,6)|some r=>(acc++r.1,r.2,0)
theorem zMG(N:Nat)(hN:N<=24):∀(m v:Nat)(acc:List Tm)(x:Tm),v+m=N->xF x=true->acc.length<=v->zB (λq=>N2 q (N:Int) (v:Int) acc x.k x.n x.sub) (aE acc (uZ m x)):=by intro m;induction m with|zero=>intro v acc x hm hg ha;refine zB.succ ?_;simp only[N2];refine zB.ifF (decide_eq_false (by omega)) (zB.ret.eq ?_);rw[uZ,aE,vR];simp|succ m ih=>
 intro v acc x hm hg ha;refine zB.succ ?_;simp only[N2];refine zB.ifT (decide_eq_true (by omega)) ?_;by_cases h:x.k=3;·obtain⟨a,b,hx,hga,hgb⟩:=rM hg h;refine zB.ifF (by simp[h]) ?_;rw[hx,pZ];refine zB.pure (a:=a) rfl (zB.pure (yA (by simp<;>omega)) (zB.pure (a:=b) rfl ?_));rw[zS v (by omega)];refine(ih (v+1) (acc++[a]) b (by omega) hgb (by simp<;>omega)).eq ?_;cases uZ m b<;>simp[aE]
 ·rw[mY h,aE];exact zB.ifT (by simp[h]) zB.ret
def xJ(t:Tm)(n:Int):List Tm×Tm×Int:=if zJ t=true then(if n<0 then([],zT,5)else if n>24 then([],zT,2)else aE [] (uZ n.toNat t))else([],zT,5)
theorem jI(t:Tm)(n:Int)(ho:t.Ok):zB (λq=>e91 q t n) (xJ t n):=by
 simp only[e91];refine(xI t ho).bind ?_;unfold xJ;by_cases h:zJ t=true
 ·rw[if_pos h];refine zB.ifT h ?_;by_cases h1:n<0;·rw[if_pos h1];exact zB.ifT (decide_eq_true h1) zB.ret
  ·rw[if_neg h1];refine zB.ifF (decide_eq_false h1) ?_;by_cases h2:n>24;·rw[if_pos h2];exact zB.ifT (decide_eq_true h2) zB.ret
   ·rw[if_neg h2];refine zB.ifF (decide_eq_false h2) ((nY t ho).bind ?_);unfold jG;rw[if_pos h];have:=zMG n.toNat (by omega) n.toNat 0 [] t (by omega) (zO h).2.2 (by simp);rw[show((n.toNat:Nat):Int)=n by omega]at this;exact this
 ·rw[if_neg h];exact zB.ifF (by simpa using h) zB.ret
def wJ:Tm->Nat|.mk k _ [_,b]=>if k=3 then wJ b+1 else 0|_=>0
theorem cA(m:Int)(a b:Tm):wJ (.mk 3 m [a,b])=wJ b+1:=by rw[wJ,if_pos rfl]
theorem zDU{t:Tm}(h:t.k≠3):wJ t=0:=by
 unfold wJ;split;·exact if_neg h
 ·rfl
theorem zQw{t:Tm}(h:t.sub.length≠2):wJ t=0:=by
 unfold wJ;split;·exact absurd rfl h
 ·rfl
def yX(t:Tm):List Tm×Tm×Int:=xJ t ((min (wJ t) 25:Nat):Int)
theorem zMH(p:Tm)(ho:p.Ok):∀(m v:Nat)(x:Tm),v+m=25->zB (λq=>N3 q p (v:Int) x.k x.n x.sub) (xJ p ((min (v+wJ x) 25:Nat):Int)):=by intro m;induction m with|zero=>
 intro v x hm;refine zB.succ ?_;simp only[N3];have hv:v=25:=by omega
 subst hv;have hsp:zB (λq=>e91 q p ((25:Nat):Int)>>=λr6=>some (r6.1,r6.2.1,r6.2.2)) (xJ p ((min (25+wJ x) 25:Nat):Int)):=((jI p _ ho).bind zB.ret).eq (by rw[show min (25+wJ x) 25=25 by omega]);exact zB.iff (λ_=>zB.iff (λ_=>zB.ifF rfl hsp) λ_=>hsp) λ_=>hsp|succ m ih=>
 intro v x hm;refine zB.succ ?_;simp only[N3];have hsp:wJ x=0->zB (λq=>e91 q p (v:Int)>>=λr6=>some (r6.1,r6.2.1,r6.2.2)) (xJ p ((min (v+wJ x) 25:Nat):Int)):=λh=>((jI p _ ho).bind zB.ret).eq (by rw[h,show min (v+0) 25=v by omega]);by_cases h3:x.k=3
 ·refine zB.ifT (by simp[h3]) ?_;by_cases h2:x.sub.length=2
  ·refine zB.ifT (by simp[h2]) (zB.ifT (decide_eq_true (by omega)) ?_);obtain⟨k,n,l⟩:=x;replace h3:k=3:=h3;subst h3;obtain⟨a,b,rfl⟩:=zPJ h2;refine zB.pure (a:=b) rfl ?_;rw[zS v (by omega),cA];exact(ih (v+1) b (by omega)).eq (by rw[show v+1+wJ b=v+(wJ b+1)by omega])
  ·exact zB.ifF (by simp<;>omega) (hsp (zQw h2))
 ·exact zB.ifF (by simp[h3]) (hsp (zDU h3))
theorem mZ(t:Tm)(ho:t.Ok):zB (λq=>e99 q t) (yX t):=by simp only[e99];exact(zMH t ho 25 0 t rfl).eq (by unfold yX;simp)
theorem cB:∀(n:Nat)(t:Tm)(r:List Tm×Tm),xF t=true->uZ n t=some r->r.1.length=n/\wJ t=n+wJ r.2/\(xF r.2=true/\r.2.nodes<=t.nodes/\r.2.high<=t.high)/\∀x∈r.1,xF x=true/\x.nodes<=t.nodes/\x.high<=t.high
 |0,t,r,hg,h=>by rw[uZ]at h;cases h;exact⟨rfl,by simp,⟨hg,Nat.le_refl _,Nat.le_refl _⟩,λx hx=>by cases hx⟩|n+1,t,r,hg,h=>by
  by_cases h3:t.k=3
  ·obtain⟨a,b,hx,hga,hgb⟩:=rM hg h3;rw[hx]at h⊢;rw[pZ]at h;obtain⟨r',h1,rfl⟩:=Option.map_eq_some_iff.1 h;have ih:=cB n b r' hgb h1;rw[cA];simp only[Tm.nodes,yN,Tm.high,wY];refine⟨by simp[ih.1],by omega,⟨ih.2.2.1.1,by omega,by omega⟩,λx hx=>?_⟩;rcases List.mem_cons.1 hx with rfl|hx;·exact⟨hga,by omega,by omega⟩
   ·have:=ih.2.2.2 x hx;exact⟨this.1,by omega,by omega⟩
  ·rw[mY h3]at h;cases h
theorem zQv:∀t:Tm,xF t=true->∀n≤wJ t,∃r,uZ n t=some r:=by intro t hg n;induction n generalizing t with|zero=>intro _;exact⟨_,rfl⟩|succ n ih=>
 intro h;by_cases h3:t.k=3
 ·obtain⟨a,b,hx,hga,hgb⟩:=rM hg h3;rw[hx,cA]at h;obtain⟨r,hr⟩:=ih b hgb (by omega);exact⟨_,by rw[hx,pZ,hr];rfl⟩
 ·rw[zDU h3]at h;omega
theorem N4{t:Tm}{n:Int}{l:List Tm}{y:Tm}(h:xJ t n=(l,y,0)):zJ t=true/\0<=n/\n<=24/\(l.length:Int)=n/\wJ t=l.length+wJ y/\zJ y=true/\∀x∈l,zJ x=true:=by
 unfold xJ at h;split at h
 ·rename_i hs;split at h;·simp at h
  ·split at h;·simp at h
   ·cases hr:uZ n.toNat t with|none=>rw[hr]at h;simp[aE]at h|some r=>rw[hr]at h;simp only[aE,List.nil_append,Prod.mk.injEq,and_true]at h;obtain⟨rfl,rfl⟩:=h;have hsp:=zO hs;have:=cB _ _ _ hsp.2.2 hr;refine⟨hs,by omega,by omega,by omega,by omega,mW (by omega) (by omega) this.2.2.1.1,λx hx=>?_⟩;have hx:=this.2.2.2 x hx;exact mW (by omega) (by omega) hx.1
 ·simp at h
theorem tL{t:Tm}{l:List Tm}{y:Tm}(h:yX t=(l,y,0)):zJ t=true/\l.length=wJ t/\l.length<=24/\wJ y=0/\zJ y=true/\∀x∈l,zJ x=true:=by have:=N4 h;refine⟨this.1,by omega,by omega,by omega,this.2.2.2.2.2.1,this.2.2.2.2.2.2⟩
def F6:List Tm->Int->Bool|[],_=>true|a::l,n=>a.k==1&&a.n==n&&F6 l (n-1)
def uP(t:Tm)(of pars more binders:Int):Bool:=(yQ t).k==6&&(yQ t).n==of&&((xH t).length:Int)==pars+more&&F6 ((xH t).take pars.toNat) (binders-1)
theorem zGp(p:Tm×List Tm)(P:Nat)(binders:Int)(hP:P<=p.2.length)(hl:p.2.length<=8192)(hb:-1152921504606846976<=binders/\binders<=1152921504606846976):∀(m v:Nat),v+m=P->zB (λq=>dZ q (P:Int) binders p (v:Int)) (F6 ((p.2.take P).drop v) (binders-1-v)):=by intro m;induction m with|zero=>intro v hm;refine zB.succ ?_;simp only[dZ];refine zB.ifF (decide_eq_false (by omega)) (zB.ret.eq ?_);rw[List.drop_eq_nil_of_le (by simp<;>omega),F6]|succ m ih=>
 intro v hm;refine zB.succ ?_;simp only[dZ];have hv:v<(p.2.take P).length:=by simp<;>omega
 have hd:=List.drop_eq_getElem_cons hv;have hg:zL p.2 (v:Int)=some (p.2.take P)[v]:=by unfold zL;rw[if_pos (by omega),show(v:Int).toNat=v by omega,List.getElem?_eq_getElem (by omega)];simp
 generalize(p.2.take P)[v]=x at hd hg;refine zB.ifT (decide_eq_true (by omega)) (zB.pure hg ?_);rw[hd,F6,zR (x:=binders-1) (by omega) (by omega),zR (x:=binders-1-v) (by omega) (by omega)];by_cases h1:x.k=1
 ·refine zB.ifF (by simp[h1]) ?_;by_cases h2:x.n=binders-1-v
  ·refine zB.ifF (by simp[h2]) ?_;rw[zS v (by omega)];refine(ih (v+1) (by omega)).eq ?_;rw[show binders-1-((v+1:Nat):Int)=binders-1-v-1 by omega];simp[h1,h2]
  ·exact zB.ifT (by simp[h2]) (zB.ret.eq (by simp[h2]))
 ·exact zB.ifT (by simp[h1]) (zB.ret.eq (by simp[h1]))
theorem B1(t:Tm)(of pars more binders:Int)(hs:zJ t=true)(h0:0<=pars/\pars<=1152921504606846976)(h1:0<=more/\more<=1152921504606846976)(hb:-1152921504606846976<=binders/\binders<=1152921504606846976):zB (λq=>zMF q t of pars more binders) (uP t of pars more binders):=by
 simp only[zMF];refine(qX t hs).bind ?_;unfold uP;by_cases h2:(yQ t).k=6
 ·refine zB.ifF (by simp[h2]) ?_;by_cases h3:(yQ t).n=of
  ·refine zB.ifF (by simp[h3]) ?_;rw[zR (x:=pars+more) (by omega) (by omega)];by_cases h4:((xH t).length:Int)=pars+more
   ·refine zB.ifF (by simp[h4]) ?_;have hl:=rT t (zO hs).2.2;have hn:=(zO hs).1;have:=zGp (yQ t,xH t) pars.toNat binders (by show _<=(xH t).length;omega) (by show(xH t).length<=_;omega) hb pars.toNat 0 (by omega);rw[show((pars.toNat:Nat):Int)=pars by omega]at this;exact this.eq (by simp[h2,h3,h4])
   ·exact zB.ifT (by simp[h4]) (zB.ret.eq (by simp[h4]))
  ·exact zB.ifT (by simp[h3]) (zB.ret.eq (by simp[h3]))
 ·exact zB.ifT (by simp[h2]) (zB.ret.eq (by simp[h2]))
def zDV(b:Nat)(a:Int):Option (Bool):=if decide (a>=0)then if decide (a<=1114111)then if decide (a<55296)then some true else some (decide (a>57343))else some false else some false
theorem zTm{b a}:Cz (zDV b a) 239 [] [ai a] (λr=>ab r) (λ_=>[]) 0:=fw func239<|rB 0 (rB 0 (rB 0 (fE 0)<|fE 1)<|fE 0)<|fE 0
def zMI(b:Nat)(a:U8):Option (Int×Int):=if decide (a<128)then some (1,(yB (a)))else if decide (a>=192)then if decide (a<224)then some (2,(yB ((IntKind.u8.wrap ((BitVec.ofInt (IntKind.bits .u8) a&&&BitVec.ofInt (IntKind.bits .u8) 31).toNat:Nat)))))else if decide (a>=224)then if decide (a<240)then some (3,(yB ((IntKind.u8.wrap ((BitVec.ofInt (IntKind.bits .u8) a&&&BitVec.ofInt (IntKind.bits .u8) 15).toNat:Nat)))))else if decide (a>=240)then if decide (a<248)then some (4,(yB ((IntKind.u8.wrap ((BitVec.ofInt (IntKind.bits .u8) a&&&BitVec.ofInt (IntKind.bits .u8) 7).toNat:Nat)))))else some (0,0)else some (0,0)else if decide (a>=240)then if decide (a<248)then some (4,(yB ((IntKind.u8.wrap ((BitVec.ofInt (IntKind.bits .u8) a&&&BitVec.ofInt (IntKind.bits .u8) 7).toNat:Nat)))))else some (0,0)else some (0,0)else if decide (a>=224)then if decide (a<240)then some (3,(yB ((IntKind.u8.wrap ((BitVec.ofInt (IntKind.bits .u8) a&&&BitVec.ofInt (IntKind.bits .u8) 15).toNat:Nat)))))else if decide (a>=240)then if decide (a<248)then some (4,(yB ((IntKind.u8.wrap ((BitVec.ofInt (IntKind.bits .u8) a&&&BitVec.ofInt (IntKind.bits .u8) 7).toNat:Nat)))))else some (0,0)else some (0,0)else if decide (a>=240)then if decide (a<248)then some (4,(yB ((IntKind.u8.wrap ((BitVec.ofInt (IntKind.bits .u8) a&&&BitVec.ofInt (IntKind.bits .u8) 7).toNat:Nat)))))else some (0,0)else some (0,0)
theorem yDm{b a}:Cz (zMI b a) 273 [] [.val (.int .u8 a)] (λr=>.tup [ai r.1,ai r.2]) (λ_=>[]) 0:=fw func273<|rB 0 (fE 1)<|rB 0 (rB 0 (fE 2)<|rB 0 (rB 0 (fE 2)<|rB 0 (rB 0 (fE 2)<|fE 0)<|fE 0)<|rB 0 (rB 0 (fE 2)<|fE 0)<|fE 0)<|rB 0 (rB 0 (fE 2)<|rB 0 (rB 0 (fE 2)<|fE 0)<|fE 0)<|rB 0 (rB 0 (fE 2)<|fE 0)<|fE 0
def zDW(b:Nat)(a:Int):Option (Int):=if decide (a>=65536)then some 4 else if decide (a>=2048)then some 3 else if decide (a>=128)then some 2 else some 1
theorem yAP{b a}:Cz (zDW b a) 274 [] [ai a] (λr=>ai r) (λ_=>[]) 0:=fw func274<|rB 0 (fE 3)<|rB 0 (fE 2)<|rB 0 (fE 1)<|fE 0
def oE:Nat->ByteArray->Int->(Int×Int)->Int->Int->Option (Int×Int×Int)
 |0,_,_,_,_,_=>none|c+1,b,a,r5,d,e=>if decide (e<r5.1)then nP b (yB (a+e))>>=λx10=>if(IntKind.u8.wrap ((BitVec.ofInt (IntKind.bits .u8) x10&&&BitVec.ofInt (IntKind.bits .u8) 192).toNat:Nat))!=128 then some (0,0,1)else oE c b a r5 (IntKind.i64.wrap ((BitVec.ofInt (IntKind.bits .i64) (yB (d*2^(min (Int.toNat 6) (IntKind.bits .i64))))|||BitVec.ofInt (IntKind.bits .i64) (yB ((IntKind.u8.wrap ((BitVec.ofInt (IntKind.bits .u8) x10&&&BitVec.ofInt (IntKind.bits .u8) 63).toNat:Nat))))).toNat:Nat)) (yB (e+1))else zDV c d>>=λr13=>if r13 then zDW c d>>=λr16=>if r16 !=r5.1 then some (0,0,1)else some (d,r5.1,0)else some (0,0,1)
def zMJ(c:Nat)(b:ByteArray)(a:Int):Option (Int×Int×Int):=if decide (a<0)then some (0,0,1)else if decide (a>=(b.size:Int))then some (0,0,1)else nP b a>>=λx3=>zMI c x3>>=λr5=>if r5.1==0 then some (0,0,1)else if decide (r5.1>(yB ((b.size:Int)-a)))then some (0,0,1)else oE c b a r5 r5.2 1
theorem zTl:∀c:Nat,∀b a r5 d e,Lz (oE c b a r5 d e) 0 f222 (pt 65461 f222) (λj=>sp j 66 0 [(0,at' b),(1,ai a),(7,ai r5.1),(8,ai d),(9,ai e)]) ⟨[],0,[],0,[]⟩ (λr=>.tup [ai r.1,ai r.2.1,ai r.2.2]) (λ_=>[]) 0 [.blk 0,.seq (pt 1023 f222)]:=yS (λ_ _ _ _ _=>lN) λc ih=>λb a r5 d e=>lw λ_=>rB 0 (rA 1 n9 λ_=>rB 1 (lE 0)<|lH 5 [] [] [] [0,1,7,8,9] (ih _ _ _ _ _))<|rK 0 [] zTm (λ_=>rC 1 [] yAP λ_=>rB 0 (lE 0)<|lE 0) λ_=>lE 1
theorem yDl{c b a}:Cz (zMJ c b a) 222 [] [at' b,ai a] (λr=>.tup [ai r.1,ai r.2.1,ai r.2.2]) (λ_=>[]) 0:=fw func222<|rB 0 (fE 0)<|rB 1 (fE 0)<|rA 0 n9 λ_=>rC 0 [] yDm λ_=>rB 2 (fE 0)<|rB 2 (fE 0)<|fH 0 [] [] [] [0,1,7,8,9] (zTl _ _ _ _ _ _)
def qY:Nat->ByteArray->yH->Int->Option (yH×Int×Int)|0,_,_,_=>none|b+1,a,d,c=>if decide (c<(a.size:Int))then zMJ b a c>>=λr3=>if r3.2.2 !=0 then some ([],c,r3.2.2)else yR 8 d [r3.1]>>=λl6=>qY b a l6 (yB (c+r3.2.1))else some (d,(a.size:Int),0)
def zGo(b:Nat)(a:ByteArray):Option (yH×Int×Int):=if decide ((a.size:Int)>65535)then some ([],0,2)else qY b a [] 0
theorem zTk:∀b:Nat,∀a d c,Lz (qY b a d c) 0 f168 (pt 16309 f168) (λj=>sp j 38 0 [(0,at' a),(5,zC zW d (.st 0 1)),(6,ai c)]) ⟨[],0,[0],1,[]⟩ (λr=>.tup [.sl (zH zW r.1) r.1.length .no,ai r.2.1,ai r.2.2]) (λ_=>[]) 0 [.blk 0,.seq (pt 255 f168)]:=yS (λ_ _ _=>lN) λb ih=>λa d c=>lw λ_=>rB 1 (rC 0 [] yDl λ_=>rB 3 (lE 0)<|rW (λh7=>oP 1 (tY h7 (by simp))) λ_=>lH 1 [] [] [1] [0,5,6] (ih _ _ _))<|lE 1
theorem yAQ{b a}:Cz (zGo b a) 168 [] [at' a] (λr=>.tup [.sl (zH zW r.1) r.1.length .no,ai r.2.1,ai r.2.2]) (λ_=>[]) 0:=fw func168<|rB 1 (fE 0)<|fH 0 [(none,5,1)] [] [0] [0,5,6] (zTk _ _ _ _)
def zGn(b:Nat)(a:ByteArray):Option (Bool):=if a.toList==(⟨#[100,97,116,97]⟩:ByteArray).toList then some true else if a.toList==(⟨#[114,101,99,111,114,100]⟩:ByteArray).toList then some true else if a.toList==(⟨#[100,101,102]⟩:ByteArray).toList then some true else if a.toList==(⟨#[83,101,116]⟩:ByteArray).toList then some true else some false
theorem zXU{b a}:Cz (zGn b a) 178 [] [at' a] (λr=>ab r) (λ_=>[]) 0:=fw func178<|rB 0 (fE 0)<|rB 0 (fE 0)<|rB 0 (fE 0)<|rB 0 (fE 0)<|fE 0
def zMK(b:Nat)(a:Int):Option (Bool):=if a==40 then some true else if a==41 then some true else if a==123 then some true else if a==125 then some true else if a==58 then some true else if a==61 then some true else if a==46 then some true else if a==44 then some true else if a==59 then some true else if a==124 then some true else if a==92 then some true else if a==45 then some true else if a==62 then some true else if a==955 then some true else if a==8594 then some true else some false
theorem yDk{b a}:Cz (zMK b a) 240 [] [ai a] (λr=>ab r) (λ_=>[]) 0:=fw func240<|rB 0 (fE 0)<|rB 0 (fE 0)<|rB 0 (fE 0)<|rB 0 (fE 0)<|rB 0 (fE 0)<|rB 0 (fE 0)<|rB 0 (fE 0)<|rB 0 (fE 0)<|rB 0 (fE 0)<|rB 0 (fE 0)<|rB 0 (fE 0)<|rB 0 (fE 0)<|rB 0 (fE 0)<|rB 0 (fE 0)<|rB 0 (fE 0)<|fE 0
def zDX(b:Nat)(a:Int):Option (Bool):=if decide (a<128)then if decide (a>=97)then if decide (a<=122)then some true else if decide (a>=65)then some (decide (a<=90))else some false else if decide (a>=65)then some (decide (a<=90))else some false else zDV b a>>=λr6=>if r6 then zMK b a>>=λr9=>if r9 then some false else if a !=160 then if decide (a<8192)then some true else some (decide (a>8303))else some false else some false
theorem zTj{b a}:Cz (zDX b a) 180 [] [ai a] (λr=>ab r) (λ_=>[]) 0:=fw func180<|rB 0 (rB 0 (rB 0 (fE 0)<|rB 0 (fE 1)<|fE 0)<|rB 0 (fE 1)<|fE 0)<|rK 0 [] zTm (λ_=>rK 0 [] yDk (λ_=>fE 1) λ_=>rB 1 (rB 0 (fE 0)<|fE 1)<|fE 0) λ_=>fE 0
def zBi(b:Nat)(a:Int):Option (Bool):=if decide (a>=48)then some (decide (a<=57))else some false
theorem zQu{b a}:Cz (zBi b a) 231 [] [ai a] (λr=>ab r) (λ_=>[]) 0:=fw func231<|rB 0 (fE 1)<|fE 0
def zML(b:Nat)(a:Int):Option (Bool):=zDX b a>>=λr1=>if r1 then some true else zBi b a>>=λr4=>if r4 then some true else if a==95 then some true else some (a==39)
theorem yDj{b a}:Cz (zML b a) 179 [] [ai a] (λr=>ab r) (λ_=>[]) 0:=fw func179<|rK 0 [] zTj (λ_=>fE 0) λ_=>rK 0 [] zQu (λ_=>fE 0) λ_=>rB 0 (fE 0)<|fE 1
def nZ:Nat->(yH×Int×Int)->Int->Option (Bool)
 |0,_,_=>none|b+1,r1,a=>if decide (a<(r1.1.length:Int))then zL r1.1 a>>=λx10=>zML b x10>>=λr12=>if r12 then nZ b r1 (yB (a+1))else some false else zL r1.1 0>>=λx15=>zDX b x15>>=λr17=>if r17 then some true else if x15==95 then some (decide ((r1.1.length:Int)>1))else some false
def iM(b:Nat)(c:ByteArray):Option (Bool):=zGo b c>>=λr1=>if r1.2.2 !=0 then some false else if(r1.1.length:Int)==0 then some false else if decide ((c.size:Int)>40)then some false else zGn b c>>=λr6=>if r6 then some false else nZ b r1 0
theorem zTi:∀b:Nat,∀r1 a,Lz (nZ b r1 a) 0 f116 (pt 16309 f116) (λj=>sp j 55 0 [(3,zC zW r1.1 .no),(30,zC zW r1.1 .no),(31,ai (r1.1.length:Int)),(32,ai a)]) ⟨[],0,[],0,[]⟩ (λr=>ab r) (λ_=>[]) 0 [.blk 0,.seq (pt 255 f116)]:=yS (λ_ _=>lN) λb ih=>λr1 a=>lw λ_=>rB 0 (rA 0 (vQ (o:=.no)) λ_=>rK 1 [] yDj (λ_=>lH 2 [] [] [] [3,30,31,32] (ih _ _)) λ_=>lE 1)<|rH λ_ h16=>rS (oA 0 (vQ (o:=.no) h16))<|rK 1 [] zTj (λ_=>lE 0) λ_=>rS (oA 0 (vQ (o:=.no) h16))<|rB 1 (lE 2)<|lE 0
theorem N5{b c}:Cz (iM b c) 116 [] [at' c] (λr=>ab r) (λ_=>[]) 0:=fw func116<|rC 0 [] yAQ λ_=>rB 3 (fE 0)<|rB 1 (fE 0)<|rB 1 (fE 0)<|rK 0 [] zXU (λ_=>fE 0) λ_=>fH 1 [] [] [] [3,30,31,32] (zTi _ _ _)
def iN:Nat->(List ByteArray)->Int->(List (ByteArray×Int))->Option (Bool)|0,_,_,_=>none|c+1,b,d,a=>if decide (d<(b.length:Int))then zL b d>>=λx2=>if decide ((nJ a x2)>0)then some false else iN c b (yB (d+1)) (A5 a x2 (yB ((nJ a x2)+1)))else some true
def e87(c:Nat)(b:List ByteArray):Option (Bool):=iN c b 0 ([]:List (ByteArray×Int))
theorem zXV:∀c:Nat,∀b d a,Lz (iN c b d a) 0 f87 (pt 4021 f87) (λj=>sp j 22 0 [(3,.obj 0),(7,zC xC b .no),(8,ai (b.length:Int)),(9,ai d)]) ⟨[(0,p7 a)],1,[],0,[]⟩ (λr=>ab r) (λ_=>[]) 0 [.blk 0,.seq (pt 63 f87)]:=yS (λ_ _ _=>lN) λc ih=>λb d a=>lw λ_=>rB 0 (rA 0 (zIK (o:=.no)) λx2=>rS (oL 1 (zKI a x2))<|rB 0 (lE 0)<|rS (oL 0 (zKI a x2))<|rS (oU 1 (zWQ a x2 (yB ((nJ a x2)+1))))<|lH 1 [] [0] [] [3,7,8,9] (ih _ _ _))<|lE 0
theorem c87{c b}:Cz (e87 c b) 87 [] [zC xC b .no] (λr=>ab r) (λ_=>[]) 0:=fw func87<|fH 1 [] [0] [] [3,7,8,9] (zXV _ _ _ _)
theorem zQt(c:Int):zD (λq=>zMI q c) λr=>0<=r.1/\r.1<=4:=by simp only[zMI];repeat'(first|exact zD.ret ⟨by simp,by simp⟩|refine zD.ite (λ_=>?_) (λ_=>?_))
theorem zMM(n:Int):zD (λq=>zDW q n) λ_=>True:=by simp only[zDW];repeat'(first|exact zD.ret trivial|refine zD.ite (λ_=>?_) (λ_=>?_))
theorem iO(n:Int):zD (λq=>zDV q n) λ_=>True:=by simp only[zDV];repeat'(first|exact zD.ret trivial|refine zD.ite (λ_=>?_) (λ_=>?_))
theorem i6{s:ByteArray}{i:Int}(h0:0<=i)(h1:i<s.size):∃c,nP s i=some c:=by unfold nP;simp[h0,h1]
theorem zMN(s:ByteArray)(a:Int)(w:Int×Int)(ha:0<=a)(hs:s.size<=65535)(hw:a+w.1<=s.size)(hw1:1<=w.1):∀(m:Nat)(i n:Int),1<=i->i+m=w.1->zD (λq=>oE q s a w n i) λr=>r.2.2=0->r.2.1=w.1:=by intro m;induction m with|zero=>intro i n hi hm;refine zD.succ ?_;simp only[oE];refine zD.ite (λh=>absurd (of_decide_eq_true h) (by omega)) λ_=>(iO n).bind λb _=>?_;refine zD.ite (λ_=>(zMM n).bind λc _=>zD.ite (λ_=>zD.ret (by simp)) λ_=>zD.ret (by simp)) λ_=>zD.ret (by simp)|succ m ih=>intro i n hi hm;refine zD.succ ?_;simp only[oE];obtain⟨c,hc⟩:=i6 (s:=s) (i:=a+i) (by omega) (by omega);refine zD.ite (λ_=>zD.pure (a:=c) (by rw[zR (by omega) (by omega)];exact hc) (zD.ite (λ_=>zD.ret (by simp)) λ_=>?_)) λh=>absurd (of_decide_eq_false h) (by omega);rw[zR (x:=i+1) (by omega) (by omega)];exact ih (i+1) _ (by omega) (by omega)
theorem zQs(s:ByteArray)(a:Int)(ha:0<=a)(hs:s.size<=65535):zD (λq=>zMJ q s a) λr=>r.2.2=0->1<=r.2.1/\a+r.2.1<=s.size:=by
 simp only[zMJ];refine zD.ite (λ_=>zD.ret (by simp)) λ_=>zD.ite (λ_=>zD.ret (by simp)) λh=>?_;have h1:=of_decide_eq_false h;obtain⟨c,hc⟩:=i6 (s:=s) (i:=a) ha (by omega);refine zD.pure hc ((zQt c).bind λw hw=>zD.ite (λ_=>zD.ret (by simp)) λh2=>zD.ite (λ_=>zD.ret (by simp)) λh3=>?_);have h4:=of_decide_eq_false h3;rw[zR (by omega) (by omega)]at h4;have h5:w.1≠0:=by simpa using h2
 refine(zMN s a w ha hs (by omega) (by omega) (w.1-1).toNat 1 w.2 (by omega) (by omega)).mono λr hr h6=>?_;have:=hr h6;omega
theorem zQr(s:ByteArray)(hs:s.size<=65535):∀(m:Nat)(a:Int)(acc:List Int),0<=a->a<=s.size->(s.size:Int)-a<=m->(acc.length:Int)<=a->zD (λq=>qY q s acc a) λr=>r.1.length<=65535:=by intro m;induction m with|zero=>intro a acc h0 h1 hm hl;refine zD.succ ?_;simp only[qY];refine zD.ite (λh=>absurd (of_decide_eq_true h) (by omega)) λ_=>zD.ret (by show acc.length<=65535;omega)|succ m ih=>intro a acc h0 h1 hm hl;refine zD.succ ?_;simp only[qY];refine zD.ite (λ_=>(zQs s a h0 hs).bind λr hr=>zD.ite (λ_=>zD.ret (by simp)) λh=>zD.pure (yA (by simp<;>omega)) ?_) λ_=>zD.ret (by show acc.length<=65535;omega);have:=hr (by simpa using h);rw[zR (by omega) (by omega)];exact ih (a+r.2.1) _ (by omega) (by omega) (by omega) (by simp;omega)
theorem zKU(s:ByteArray):zD (λq=>zGo q s) λr=>r.1.length<=65535:=by simp only[zGo];refine zD.ite (λ_=>zD.ret (by simp)) λh=>?_;have:=of_decide_eq_false h;exact zQr s (by omega) s.size 0 [] (by omega) (by omega) (by omega) (by simp)
theorem zQq(n:Int):zD (λq=>zMK q n) λ_=>True:=by simp only[zMK];repeat'(first|exact zD.ret trivial|refine zD.ite (λ_=>?_) (λ_=>?_))
theorem iP(n:Int):zD (λq=>zDX q n) λ_=>True:=by simp only[zDX];repeat'(first|exact zD.ret trivial|refine zD.ite (λ_=>?_) (λ_=>?_)|refine zD.bind (iO n) (λ_ _=>?_)|refine zD.bind (zQq n) (λ_ _=>?_))
theorem jJ(n:Int):zD (λq=>zBi q n) λ_=>True:=by simp only[zBi];repeat'(first|exact zD.ret trivial|refine zD.ite (λ_=>?_) (λ_=>?_))
theorem zMO(n:Int):zD (λq=>zML q n) λ_=>True:=by simp only[zML];repeat'(first|exact zD.ret trivial|refine zD.ite (λ_=>?_) (λ_=>?_)|refine zD.bind (iP n) (λ_ _=>?_)|refine zD.bind (jJ n) (λ_ _=>?_))
theorem eH(s:ByteArray):zD (λq=>zGn q s) λ_=>True:=by simp only[zGn];repeat'(first|exact zD.ret trivial|refine zD.ite (λ_=>?_) (λ_=>?_))
theorem S9(r1:List Int×Int×Int)(h0:0<r1.1.length)(h1:r1.1.length<=65535):∀(l:List Int)(v:Nat),r1.1.drop v=l->zD (λq=>nZ q r1 (v:Int)) λ_=>True
 |[],v,hd=>by
  refine zD.succ ?_;simp only[nZ];obtain⟨y,hy⟩:∃y,zL r1.1 0=some y:=⟨_,by unfold zL;rw[if_pos (by omega)];exact List.getElem?_eq_getElem h0⟩;refine zD.ite (λh=>?_) λ_=>zD.pure hy ?_;·rw[zZ hd]at h;cases h
  ·repeat'(first|exact zD.ret trivial|refine zD.ite (λ_=>?_) (λ_=>?_)|refine zD.bind (iP y) (λ_ _=>?_))|x::l,v,hd=>by
  have hlt:=yC hd;refine zD.succ ?_;simp only[nZ];refine zD.ite (λ_=>zD.pure (zU hd) ((zMO x).bind λb _=>zD.ite (λ_=>?_) λ_=>zD.ret trivial)) λh=>?_
  ·rw[zS v (by omega)];exact S9 r1 h0 h1 l (v+1) (zP hd)
  ·rw[zX hd]at h;cases h
theorem sA(s:ByteArray):zD (λq=>iM q s) λ_=>True:=by simp only[iM];refine(zKU s).bind λr hr=>zD.ite (λ_=>zD.ret trivial) λ_=>zD.ite (λ_=>zD.ret trivial) λh=>zD.ite (λ_=>zD.ret trivial) λ_=>(eH s).bind λ_ _=>zD.ite (λ_=>zD.ret trivial) λ_=>?_;exact S9 r (by simp at h;exact List.length_pos_iff.2 h) hr r.1 0 rfl
theorem aP:∀(r l:List ByteArray)(v:Nat)(m:List (ByteArray×Int)),l.drop v=r->l.length<=65535->zD (λq=>iN q l (v:Int) m) λ_=>True
 |[],l,v,m,hd,hl=>by refine zD.succ ?_;simp only[iN];refine zD.ite (λh=>?_) λ_=>zD.ret trivial;rw[zZ hd]at h;cases h|x::r,l,v,m,hd,hl=>by
  have hlt:=yC hd;refine zD.succ ?_;simp only[iN];refine zD.ite (λ_=>zD.pure (zU hd) (zD.ite (λ_=>zD.ret trivial) λ_=>?_)) λh=>?_;·rw[zS v (by omega)];exact aP r l (v+1) _ (zP hd) hl
  ·rw[zX hd]at h;cases h
theorem zDY(l:List ByteArray)(hl:l.length<=65535):zD (λq=>e87 q l) λ_=>True:=by simp only[e87];exact aP l l 0 _ rfl hl
def cC:Nat->Int->(List U8)->Int->Int->(List U8)->Option (ByteArray×Int)|0,_,_,_,_,_=>none|e+1,r4,x7,f,m,d=>if decide (m>0)then fY x7.length m>>=λx10=>E7 d x10 (IntKind.u8.wrap ((BitVec.ofInt (IntKind.bits .u8) 128|||BitVec.ofInt (IntKind.bits .u8) (IntKind.u8.wrap ((IntKind.i64.wrap ((BitVec.ofInt (IntKind.bits .i64) f&&&BitVec.ofInt (IntKind.bits .i64) 63).toNat:Nat))))).toNat:Nat))>>=λx12=>cC e r4 x7 (Int.fdiv f (2^(min (Int.toNat 6) (IntKind.bits .i64)))) (yB (m-1)) x12 else zST 3840 r4>>=λx14=>fY x7.length 0>>=λx16=>E7 d x16 (IntKind.u8.wrap ((IntKind.i64.wrap ((BitVec.ofInt (IntKind.bits .i64) (IntKind.i64.wrap ((BitVec.ofInt (IntKind.bits .i64) x14&&&BitVec.ofInt (IntKind.bits .i64) 255).toNat:Nat))|||BitVec.ofInt (IntKind.bits .i64) f).toNat:Nat))))>>=λx18=>gtx x7.length x18>>=λx20=>some (x20,0)
def zQp(e:Nat)(g:Int):Option (ByteArray×Int):=zDV e g>>=λr1=>if r1 then zDW e g>>=λr4=>if r4==1 then some ((tN [(IntKind.u8.wrap (g))]),0)else gmk 1 (default:U8) r4>>=λx7=>cC e r4 x7 g (yB (r4-1)) x7 else some ((⟨#[]⟩:ByteArray),16)
theorem zTh:∀e:Nat,∀r4 x7 f m d,Lz (cC e r4 x7 f m d) 0 f223 (pt 262069 f223) (λj=>sp j 47 0 [(0,ai f),(4,ai r4),(5,.ms 0 0 x7.length x7.length 1),(6,ai m)]) ⟨[(0,.row (zH kT d))],1,[],0,[]⟩ (λr=>.tup [at' r.1,ai r.2]) (λ_=>[]) 0 [.blk 0,.seq (pt 4095 f223)]:=yS (λ_ _ _ _ _=>lN) λe ih=>λr4 x7 f m d=>lw λ_=>rB 0 (rA 3 (zPb (b:=0) (c:=List.length x7) (z:=1)) λ_=>rW (λh13=>oW 0 (zPt (x:=(IntKind.u8.wrap ((BitVec.ofInt (IntKind.bits .u8) 128|||BitVec.ofInt (IntKind.bits .u8) (IntKind.u8.wrap ((IntKind.i64.wrap ((BitVec.ofInt (IntKind.bits .i64) f&&&BitVec.ofInt (IntKind.bits .i64) 63).toNat:Nat))))).toNat:Nat))) (a:=(λz=>.val (.int .u8 z))) A0 (λ_=>rfl) (λ_=>⟨rfl,rfl⟩) h13)) λ_=>lH 2 [] [0] [] [0,4,5,6] (ih _ _ _ _ _))<|rA 0 (zXG (P:=prog) (t:=3)) λx14=>rA 3 (zPb (b:=0) (c:=List.length x7) (z:=1)) λ_=>rW (λh19=>oW 0 (zPt (x:=(IntKind.u8.wrap ((IntKind.i64.wrap ((BitVec.ofInt (IntKind.bits .i64) (IntKind.i64.wrap ((BitVec.ofInt (IntKind.bits .i64) x14&&&BitVec.ofInt (IntKind.bits .i64) 255).toNat:Nat))|||BitVec.ofInt (IntKind.bits .i64) f).toNat:Nat))))) (a:=(λz=>.val (.int .u8 z))) A0 (λ_=>rfl) (λ_=>⟨rfl,rfl⟩) h19)) λ_=>rW (λh21=>oCv 0 (zPd h21)) λ_=>lE 0
theorem yAR{e g}:Cz (zQp e g) 223 [] [ai g] (λr=>.tup [at' r.1,ai r.2]) (λ_=>[]) 0:=fw func223<|rK 0 [] zTm (λ_=>rC 1 [] yAP λ_=>rB 0 (rS (oA 2 (vF [(IntKind.u8.wrap (g))] (o:=.full)))<|fE 0)<|rW (λh8=>oM 0 (zXM h8)) λ_=>fH 1 [] [0] [] [0,4,5,6] (zTh _ _ _ _ _ _)) λ_=>fE 1
def cD:Nat->yH->Int->yH->Int->Option yH|0,_,_,_,_=>none|c+1,b,a,d,e=>if decide (a<(b.length:Int))then zL b a>>=λx2=>yR 8 d [e]>>=λl4=>zQp c x2>>=λr6=>cD c b (yB (a+1)) l4 (yB (e+(r6.1.size:Int)))else some d
def zTg(c:Nat)(b:yH):Option yH:=cD c b 0 [] 0
theorem zTf:∀c:Nat,∀b a d e,Lz (cD c b a d e) 0 f169 (pt 16309 f169) (λj=>sp j 30 0 [(3,zC zW d (.st 0 1)),(4,ai e),(9,zC zW b .no),(10,ai (b.length:Int)),(11,ai a)]) ⟨[],0,[0],1,[]⟩ (λr=>.sl (zH zW r) r.length .no) (λ_=>[]) 0 [.blk 0,.seq (pt 255 f169)]:=yS (λ_ _ _ _=>lN) λc ih=>λb a d e=>lw λ_=>rB 0 (rA 0 (vQ (o:=.no)) λ_=>rW (λh5=>oP 2 (tY h5 (by simp))) λ_=>rC 0 [] yAR λ_=>lH 5 [] [] [1] [3,4,9,10,11] (ih _ _ _ _))<|lE 0
theorem yDi{c b}:Cz (zTg c b) 169 [] [zC zW b .no] (λr=>.sl (zH zW r) r.length .no) (λ_=>[]) 0:=fw func169<|fH 1 [(none,3,1)] [] [0] [3,4,9,10,11] (zTf _ _ _ _ _)
def zTe(b:Nat)(a:Int):Option (Bool):=if a==9 then some true else if a==10 then some true else if a==13 then some true else some (a==32)
theorem yDh{b a}:Cz (zTe b a) 224 [] [ai a] (λr=>ab r) (λ_=>[]) 0:=fw func224<|rB 0 (fE 0)<|rB 0 (fE 0)<|rB 0 (fE 0)<|fE 1
def V6(e:Nat)(a c:yH)(b d:Int):Option (Int):=if decide ((yB (b+d))>=(a.length:Int))then some (-1)else zL a (yB (b+d))>>=λx2=>some x2
theorem zDZ{e a c b d}:Cz (V6 e a c b d) 225 [.cells [zC zW a .no,zC zW c .no,ai b]] [.mp 0 0,ai d] (λr=>ai r) (λ_=>[.cells [zC zW a .no,zC zW c .no,ai b]]) 0:=fw func225<|rB 4 (fE 0)<|rA 3 (vQ (o:=.no)) λ_=>fE 1
def zGm(d:Nat)(a b:yH)(c e f:Int):Option (Bool):=V6 d a b c 0>>=λr1=>if r1==e then V6 d a b c 1>>=λr4=>some (r4==f)else some false
theorem zQo{d a b c e f}:Cz (zGm d a b c e f) 226 [.cells [zC zW a .no,zC zW b .no,ai c]] [.mp 0 0,ai e,ai f] (λr=>ab r) (λ_=>[.cells [zC zW a .no,zC zW b .no,ai c]]) 0:=fw func226<|rC 0 [0] zDZ λ_=>rB 0 (rC 0 [0] zDZ λ_=>fE 1)<|fE 0
def F7:Nat->yH->yH->Int->Option (Int)|0,_,_,_=>none|e+1,a,b,c=>if decide (c<(a.length:Int))then V6 e a b c 0>>=λr2=>if r2 !=10 then F7 e a b (yB (c+1))else some c else some c
def zXW(e:Nat)(a b:yH)(d:Int):Option (Int):=F7 e a b d
theorem zTd:∀e:Nat,∀a b c,Lz (F7 e a b c) 1 f227 (pt 5 f227) (λj=>sp j 24 0 [(0,.mp 0 0)]) ⟨[(0,.cells [zC zW a .no,zC zW b .no,ai c])],1,[],0,[]⟩ (λ_=>.tup []) (λr=>[.cells [zC zW a .no,zC zW b .no,ai r]]) 0 [.blk 0]:=yS (λ_ _ _=>lN) λe ih=>λa b c=>lw λ_=>rB 3 (rC 0 [0] zDZ λ_=>rB 0 (lH 3 [] [0] [] [0] (ih _ _ _))<|lE 0)<|lE 0
theorem yDg{e a b d}:Cz (zXW e a b d) 227 [.cells [zC zW a .no,zC zW b .no,ai d]] [.mp 0 0] (λ_=>.tup []) (λr=>[.cells [zC zW a .no,zC zW b .no,ai r]]) 0:=fw func227<|fH 0 [] [0] [] [0] (zTd _ _ _ _)
def lY:Nat->yH->yH->Int->Int->Option (Bool×Int)
 |0,_,_,_,_=>none|e+1,a,b,f,c=>if decide (c<(a.length:Int))then zGm e a b c 123 45>>=λr2=>if r2 then lY e a b (yB (f+1)) (yB (c+2))else zGm e a b c 45 125>>=λr5=>if r5 then if(yB (f-1))==0 then some (((yB (f-1))==0),(yB (c+2)))else lY e a b (yB (f-1)) (yB (c+2))else lY e a b f (yB (c+1))else some ((f==0),c)
def zXX(e:Nat)(a b:yH)(d:Int):Option (Bool×Int):=lY e a b 0 d
theorem zTc:∀e:Nat,∀a b f c,Lz (lY e a b f c) 1 f228 (pt 14309 f228) (λj=>sp j 49 0 [(0,.mp 0 0),(3,ai f)]) ⟨[(0,.cells [zC zW a .no,zC zW b .no,ai c])],1,[],0,[]⟩ (λr=>ab r.1) (λr=>[.cells [zC zW a .no,zC zW b .no,ai r.2]]) 0 [.blk 0,.seq (pt 895 f228)]:=yS (λ_ _ _ _=>lN) λe ih=>λa b f c=>lw λ_=>rB 3 (rK 0 [0] zQo (λ_=>lH 4 [] [0] [] [0,3] (ih _ _ _ _)) λ_=>rK 0 [0] zQo (λ_=>rB 4 (lE 1)<|lH 0 [] [0] [] [0,3] (ih _ _ _ _)) λ_=>lH 3 [] [0] [] [0,3] (ih _ _ _ _))<|lE 1
theorem yDf{e a b d}:Cz (zXX e a b d) 228 [.cells [zC zW a .no,zC zW b .no,ai d]] [.mp 0 0] (λr=>ab r.1) (λr=>[.cells [zC zW a .no,zC zW b .no,ai r.2]]) 0:=fw func228<|fH 0 [] [0] [] [0,3] (zTc _ _ _ _ _)
def lZ:Nat->yH->yH->Int->Option (Int×Bool×Int)
 |0,_,_,_=>none|d+1,a,b,c=>if decide (c<(a.length:Int))then V6 d a b c 0>>=λr2=>zTe d r2>>=λr4=>if r4 then lZ d a b (yB (c+1))else zGm d a b c 45 45>>=λr7=>if r7 then zXW d a b c>>=λr10=>lZ d a b r10 else zGm d a b c 123 45>>=λr12=>if r12 then zXX d a b c>>=λr15=>if r15.1 then lZ d a b r15.2 else zL b c>>=λx18=>some (x18,false,r15.2)else some (0,true,c)else some (0,true,c)
def zXY(d:Nat)(a b:yH)(e:Int):Option (Int×Bool×Int):=lZ d a b e
theorem zTb:∀d:Nat,∀a b c,Lz (lZ d a b c) 1 f170 (pt 229 f170) (λj=>sp j 48 0 [(0,.mp 0 0)]) ⟨[(0,.cells [zC zW a .no,zC zW b .no,ai c])],1,[],0,[]⟩ (λr=>.tup [ai r.1,ab r.2.1]) (λr=>[.cells [zC zW a .no,zC zW b .no,ai r.2.2]]) 0 [.blk 0,.seq (pt 15 f170)]:=yS (λ_ _ _=>lN) λd ih=>λa b c=>lw λ_=>rB 3 (rC 0 [0] zDZ λ_=>rK 0 [] yDh (λ_=>lH 3 [] [0] [] [0] (ih _ _ _)) λ_=>rK 0 [0] zQo (λ_=>rC 0 [0] yDg λ_=>lH 0 [] [0] [] [0] (ih _ _ _)) λ_=>rK 0 [0] zQo (λ_=>rK 1 [0] yDf (λ_=>lH 1 [] [0] [] [0] (ih _ _ _)) λ_=>rA 2 (vQ (o:=.no)) λ_=>lE 1) λ_=>lE 0)<|lE 0
theorem yDe{d a b e}:Cz (zXY d a b e) 170 [.cells [zC zW a .no,zC zW b .no,ai e]] [.mp 0 0] (λr=>.tup [ai r.1,ab r.2.1]) (λr=>[.cells [zC zW a .no,zC zW b .no,ai r.2.2]]) 0:=fw func170<|fH 0 [] [0] [] [0] (zTb _ _ _ _)
def cE:Nat->yH->Int->(List U8)->Option (ByteArray×Int)|0,_,_,_=>none|b+1,a,c,e=>if decide (c<(a.length:Int))then zL a c>>=λx8=>zQp b x8>>=λr10=>if decide ((yB ((e.length:Int)+(r10.1.size:Int)))>65535)then some ((⟨#[]⟩:ByteArray),2)else yR 1 e (gbs r10.1)>>=λl13=>cE b a (yB (c+1)) l13 else some ((tN e),0)
def cG:Nat->yH->Int->Option (ByteArray×Int)|0,_,_=>none|b+1,a,d=>if decide (d<(a.length:Int))then zL a d>>=λx2=>zDV b x2>>=λr4=>if r4 then cG b a (yB (d+1))else some ((⟨#[]⟩:ByteArray),16)else cE b a 0 []
def zEz(b:Nat)(a:yH):Option (ByteArray×Int):=cG b a 0
theorem zTa:∀b:Nat,∀a c e,Lz (cE b a c e) 0 f275 (pt 16309 f275) (λj=>sp j 44 0 [(6,zC kT e (.st 0 1)),(21,zC zW a .no),(22,ai (a.length:Int)),(23,ai c)]) ⟨[],0,[0],1,[]⟩ (λr=>.tup [at' r.1,ai r.2]) (λ_=>[]) 0 [.blk 2,.seq (pt 255 f275)]:=yS (λ_ _ _=>lN) λb ih=>λa c e=>lw λ_=>rB 0 (rA 0 (vQ (o:=.no)) λ_=>rC 1 [] yAR λr10=>rB 5 (lE 0)<|rH λ_ h14=>rZ (List.length (gbs r10.1)=0) (λh15=>rS (oPs 0 (zMe h14 h15))<|lH 1 [] [] [0] [6,21,22,23] (ih _ _ _)) λh15=>rS (oPs 0 (zPe h14 h15))<|lH 1 [] [] [1] [6,21,22,23] (ih _ _ _))<|rS (oA 0 (vF e (o:=(.st 0 1))))<|lE 0
theorem zTA:∀b:Nat,∀a d,Lz (cG b a d) 0 f275 (pt 949 f275) (λj=>sp j 44 0 [(0,zC zW a .no),(11,zC zW a .no),(12,ai (a.length:Int)),(13,ai d)]) ⟨[],0,[],0,[]⟩ (λr=>.tup [at' r.1,ai r.2]) (λ_=>[]) 0 [.blk 0,.seq (pt 15 f275)]:=yS (λ_ _=>lN) λb ih=>λa d=>lw λ_=>rB 0 (rA 0 (vQ (o:=.no)) λ_=>rK 1 [] zTm (λ_=>lH 2 [] [] [] [0,11,12,13] (ih _ _)) λ_=>lE 1)<|lH 1 [(none,6,1)] [] [0] [6,21,22,23] (zTa _ _ _ _)
theorem zTB{b a}:Cz (zEz b a) 275 [] [zC zW a .no] (λr=>.tup [at' r.1,ai r.2]) (λ_=>[]) 0:=fw func275<|fH 1 [] [] [] [0,11,12,13] (zTA _ _ _)
def nB:Nat->yH->yH->Int->Int->Option (ByteArray×Int)|0,_,_,_,_=>none|e+1,b,c,d,a=>if decide (a<(b.length:Int))then V6 e b c a 0>>=λr2=>zBi e r2>>=λr4=>if r4 then nB e b c d (yB (a+1))else uL b d a>>=λx7=>zEz e x7>>=λr9=>some (r9.1,a)else uL b d a>>=λx11=>zEz e x11>>=λr13=>some (r13.1,a)
def i7(e:Nat)(b c:yH)(d:Int):Option (ByteArray×Int):=nB e b c d d
theorem zGl:∀e:Nat,∀b c d a,Lz (nB e b c d a) 1 f229 (pt 997 f229) (λj=>sp j 50 0 [(0,.mp 0 0),(1,.clo 231 [] []),(5,ai d)]) ⟨[(0,.cells [zC zW b .no,zC zW c .no,ai a])],1,[],0,[]⟩ (λr=>at' r.1) (λr=>[.cells [zC zW b .no,zC zW c .no,ai r.2]]) 0 [.blk 0,.seq (pt 63 f229)]:=yS (λ_ _ _ _=>lN) λe ih=>λb c d a=>lw λ_=>rB 3 (rC 0 [0] zDZ λ_=>rK 0 [] zQu (λ_=>lH 3 [] [0] [] [0,1,5] (ih _ _ _ _)) λ_=>rA 2 zSX λ_=>rC 0 [] zTB λ_=>lE 2)<|rA 2 zSX λ_=>rC 0 [] zTB λ_=>lE 2
theorem zQn{e b c d}:Cz (i7 e b c d) 229 [.cells [zC zW b .no,zC zW c .no,ai d]] [.mp 0 0,.clo 231 [] []] (λr=>at' r.1) (λr=>[.cells [zC zW b .no,zC zW c .no,ai r.2]]) 0:=fw func229<|fH 1 [] [0] [] [0,1,5] (zGl _ _ _ _ _)
def zQm(b:Nat)(a:Int):Option (Bool):=zDX b a>>=λr1=>if r1 then some true else zBi b a>>=λr4=>if r4 then some true else if a==95 then some true else some (a==39)
theorem yAS{b a}:Cz (zQm b a) 230 [] [ai a] (λr=>ab r) (λ_=>[]) 0:=fw func230<|rK 0 [] zTj (λ_=>fE 0) λ_=>rK 0 [] zQu (λ_=>fE 0) λ_=>rB 0 (fE 0)<|fE 1
def nC:Nat->yH->yH->Int->Int->Option (ByteArray×Int)|0,_,_,_,_=>none|e+1,b,c,d,a=>if decide (a<(b.length:Int))then V6 e b c a 0>>=λr2=>zQm e r2>>=λr4=>if r4 then nC e b c d (yB (a+1))else uL b d a>>=λx7=>zEz e x7>>=λr9=>some (r9.1,a)else uL b d a>>=λx11=>zEz e x11>>=λr13=>some (r13.1,a)
def F8(e:Nat)(b c:yH)(d:Int):Option (ByteArray×Int):=nC e b c d d
theorem zGk:∀e:Nat,∀b c d a,Lz (nC e b c d a) 1 f229 (pt 997 f229) (λj=>sp j 50 0 [(0,.mp 0 0),(1,.clo 230 [] []),(5,ai d)]) ⟨[(0,.cells [zC zW b .no,zC zW c .no,ai a])],1,[],0,[]⟩ (λr=>at' r.1) (λr=>[.cells [zC zW b .no,zC zW c .no,ai r.2]]) 0 [.blk 0,.seq (pt 63 f229)]:=yS (λ_ _ _ _=>lN) λe ih=>λb c d a=>lw λ_=>rB 3 (rC 0 [0] zDZ λ_=>rK 0 [] yAS (λ_=>lH 3 [] [0] [] [0,1,5] (ih _ _ _ _)) λ_=>rA 2 zSX λ_=>rC 0 [] zTB λ_=>lE 2)<|rA 2 zSX λ_=>rC 0 [] zTB λ_=>lE 2
theorem zGj{e b c d}:Cz (F8 e b c d) 229 [.cells [zC zW b .no,zC zW c .no,ai d]] [.mp 0 0,.clo 230 [] []] (λr=>at' r.1) (λr=>[.cells [zC zW b .no,zC zW c .no,ai r.2]]) 0:=fw func229<|fH 1 [] [0] [] [0,1,5] (zGk _ _ _ _ _)
def cH:Nat->ByteArray->Int->Nat->Option (Int×Bool)|0,_,_,_=>none|c+1,b,d,a=>if decide (a<ByteArray.size b)then zBi c (yB (((Utf8.decode b a).1:Int)))>>=λr8=>if r8 then cH c b (yB ((yB (10*d))+(yB ((IntKind.i32.wrap (((Utf8.decode b a).1:Int)-48)))))) (a+(Utf8.decode b a).2)else some (0,false)else some (d,true)
def zQl(c:Nat)(b:ByteArray):Option (Int×Bool):=if b.toList==(⟨#[]⟩:ByteArray).toList then some (0,false)else if decide ((b.size:Int)>3)then some (0,false)else nP b 0>>=λx3=>if x3==48 then if decide ((b.size:Int)>1)then some (0,false)else cH c b 0 0 else cH c b 0 0
theorem zKV:∀c:Nat,∀b d a,Lz (cH c b d a) 0 f232 (pt 16309 f232) (λj=>sp j 40 0 [(4,ai d),(25,.mp 0 0)]) ⟨[(0,.obj (.stringIter b a))],1,[],0,[]⟩ (λr=>.tup [ai r.1,ab r.2]) (λ_=>[]) 0 [.blk 0,.seq (pt 255 f232)]:=yS (λ_ _ _=>lN) λc ih=>λb d a=>lw λ_=>rI (λh7=>rS (oX 0 (zSU (of_decide_eq_true h7)))<|rK 3 [] zQu (λ_=>lH 5 [] [0] [] [4,25] (ih _ _ _)) λ_=>lE 1) λh7=>rS (oX 0 (zSV (of_decide_eq_false h7)))<|lE 1
theorem yAT{c b}:Cz (zQl c b) 232 [] [at' b] (λr=>.tup [ai r.1,ab r.2]) (λ_=>[]) 0:=fw func232<|rB 0 (fE 0)<|rB 1 (fE 0)<|rA 0 n9 λ_=>rB 0 (rB 1 (fE 0)<|fH 0 [] [0] [] [4,25] (zKV _ _ _ _))<|fH 0 [] [0] [] [4,25] (zKV _ _ _ _)
def zTC(d:Nat)(a b:yH)(c:Int):Option (ByteArray×Int):=V6 d a b c 0>>=λr1=>if r1==40 then some ((tN [(IntKind.u8.wrap (r1))]),1)else if r1==41 then some ((tN [(IntKind.u8.wrap (r1))]),1)else if r1==123 then some ((tN [(IntKind.u8.wrap (r1))]),1)else if r1==125 then some ((tN [(IntKind.u8.wrap (r1))]),1)else if r1==58 then some ((tN [(IntKind.u8.wrap (r1))]),1)else if r1==61 then some ((tN [(IntKind.u8.wrap (r1))]),1)else if r1==46 then some ((tN [(IntKind.u8.wrap (r1))]),1)else if r1==44 then some ((tN [(IntKind.u8.wrap (r1))]),1)else if r1==59 then some ((tN [(IntKind.u8.wrap (r1))]),1)else if r1==124 then some ((tN [(IntKind.u8.wrap (r1))]),1)else if r1==92 then some ((tN [(IntKind.u8.wrap (r1))]),1)else if r1==955 then some ((⟨#[92]⟩:ByteArray),1)else if r1==8594 then some ((⟨#[45,62]⟩:ByteArray),1)else zGm d a b c 45 62>>=λr16=>if r16 then some ((⟨#[45,62]⟩:ByteArray),2)else some ((⟨#[]⟩:ByteArray),0)
theorem yDd{d a b c}:Cz (zTC d a b c) 233 [.cells [zC zW a .no,zC zW b .no,ai c]] [.mp 0 0] (λr=>.tup [at' r.1,ai r.2]) (λ_=>[.cells [zC zW a .no,zC zW b .no,ai c]]) 0:=fw func233<|rC 0 [0] zDZ λr1=>rB 0 (rS (oA 2 (vF [(IntKind.u8.wrap (r1))] (o:=.full)))<|fE 0)<|rB 0 (rS (oA 2 (vF [(IntKind.u8.wrap (r1))] (o:=.full)))<|fE 0)<|rB 0 (rS (oA 2 (vF [(IntKind.u8.wrap (r1))] (o:=.full)))<|fE 0)<|rB 0 (rS (oA 2 (vF [(IntKind.u8.wrap (r1))] (o:=.full)))<|fE 0)<|rB 0 (rS (oA 2 (vF [(IntKind.u8.wrap (r1))] (o:=.full)))<|fE 0)<|rB 0 (rS (oA 2 (vF [(IntKind.u8.wrap (r1))] (o:=.full)))<|fE 0)<|rB 0 (rS (oA 2 (vF [(IntKind.u8.wrap (r1))] (o:=.full)))<|fE 0)<|rB 0 (rS (oA 2 (vF [(IntKind.u8.wrap (r1))] (o:=.full)))<|fE 0)<|rB 0 (rS (oA 2 (vF [(IntKind.u8.wrap (r1))] (o:=.full)))<|fE 0)<|rB 0 (rS (oA 2 (vF [(IntKind.u8.wrap (r1))] (o:=.full)))<|fE 0)<|rB 0 (rS (oA 2 (vF [(IntKind.u8.wrap (r1))] (o:=.full)))<|fE 0)<|rB 0 (fE 0)<|rB 0 (fE 0)<|rK 0 [0] zQo (λ_=>fE 0) λ_=>fE 0
def zTD(d:Nat)(a b:yH)(c:Int):Option (zQ×Bool×Int):=zL b c>>=λx1=>V6 d a b c 0>>=λr3=>zDX d r3>>=λr5=>if r5 then F8 d a b c>>=λr8=>zGn d r8.1>>=λr10=>if r10 then some ((zQ.mk 2 r8.1 x1),true,r8.2)else if r8.1.toList==(⟨#[95]⟩:ByteArray).toList then some ((zQ.mk 1 r8.1 x1),true,r8.2)else iM d r8.1>>=λr14=>some ((zQ.mk 1 r8.1 x1),r14,r8.2)else if r3==95 then F8 d a b c>>=λr17=>zGn d r17.1>>=λr19=>if r19 then some ((zQ.mk 2 r17.1 x1),true,r17.2)else if r17.1.toList==(⟨#[95]⟩:ByteArray).toList then some ((zQ.mk 1 r17.1 x1),true,r17.2)else iM d r17.1>>=λr23=>some ((zQ.mk 1 r17.1 x1),r23,r17.2)else zBi d r3>>=λr25=>if r25 then i7 d a b c>>=λr28=>zQl d r28.1>>=λr30=>if r30.2 then V6 d a b r28.2 0>>=λr33=>zQm d r33>>=λr35=>some ((zQ.mk 3 r28.1 x1),!r35,r28.2)else some ((zQ.mk 3 r28.1 x1),false,r28.2)else zTC d a b c>>=λr37=>some ((zQ.mk 4 r37.1 x1),decide (r37.2>0),(yB (c+r37.2)))
theorem yDc{d a b c}:Cz (zTD d a b c) 171 [.cells [zC zW a .no,zC zW b .no,ai c]] [.mp 0 0] (λr=>.tup [S4 r.1,ab r.2.1]) (λr=>[.cells [zC zW a .no,zC zW b .no,ai r.2.2]]) 0:=fw func171<|rA 2 (vQ (o:=.no)) λ_=>rC 2 [0] zDZ λ_=>rK 0 [] zTj (λ_=>rC 0 [0] zGj λ_=>rK 3 [] zXU (λ_=>fE 5) λ_=>rB 4 (fE 1)<|rC 1 [] N5 λ_=>fE 1) λ_=>rB 0 (rC 0 [0] zGj λ_=>rK 3 [] zXU (λ_=>fE 5) λ_=>rB 4 (fE 1)<|rC 1 [] N5 λ_=>fE 1)<|rK 0 [] zQu (λ_=>rC 0 [0] zQn λ_=>rC 3 [] yAT λ_=>rB 1 (rC 1 [0] zDZ λ_=>rC 0 [] yAS λ_=>fE 2)<|fE 2) λ_=>rC 0 [0] yDd λ_=>fE 10
def F9:Nat->ByteArray->(yH×Int×Int)->yH->(List zQ)->Int->Option (List zQ×Int×Int)
 |0,_,_,_,_,_=>none|c+1,b,r1,r4,d,a=>zXY c r1.1 r4 a>>=λr6=>if r6.2.1 then if decide (r6.2.2>=(r1.1.length:Int))then yR 32 d [(zQ.mk 5 (⟨#[]⟩:ByteArray) (b.size:Int))]>>=λl10=>some (l10,(b.size:Int),0)else if decide ((d.length:Int)>=8192)then zL r4 r6.2.2>>=λx13=>some ([],x13,2)else zTD c r1.1 r4 r6.2.2>>=λr15=>if r15.2.1 then yR 32 d [r15.1]>>=λl18=>F9 c b r1 r4 l18 r15.2.2 else some ([],r15.1.at_,1)else some ([],r6.1,1)
def zTE(c:Nat)(b:ByteArray):Option (List zQ×Int×Int):=zGo c b>>=λr1=>if r1.2.2 !=0 then some ([],r1.2.1,r1.2.2)else zTg c r1.1>>=λr4=>F9 c b r1 r4 [] 0
theorem zTF:∀c:Nat,∀b r1 r4 d a,Lz (F9 c b r1 r4 d a) 0 f104 (pt 65509 f104) (λj=>sp j 81 0 [(0,at' b),(8,.mp 0 0),(9,zC zI d (.st 0 3))]) ⟨[(0,.cells [zC zW r1.1 .no,zC zW r4 .no,ai a])],1,[0],1,[]⟩ (λr=>.tup [.sl (zH zI r.1) r.1.length .no,ai r.2.1,ai r.2.2]) (λ_=>[]) 0 [.blk 0,.seq (pt 4095 f104)]:=yS (λ_ _ _ _ _=>lN) λc ih=>λb r1 r4 d a=>lw λ_=>rC 0 [0] yDe λ_=>rB 1 (rB 4 (rW (λh11=>oP 2 (zPi h11 (by simp))) λ_=>lE 1)<|rB 1 (rA 2 (vQ (o:=.no)) λ_=>lE 1)<|rC 0 [0] yDc λ_=>rB 1 (rW (λh19=>oP 4 (zPi h19 (by simp))) λ_=>lH 0 [] [0] [1] [0,8,9] (ih _ _ _ _ _))<|lE 3)<|lE 1
theorem yDb{c b}:Cz (zTE c b) 104 [] [at' b] (λr=>.tup [.sl (zH zI r.1) r.1.length .no,ai r.2.1,ai r.2.2]) (λ_=>[]) 0:=fw func104<|rC 0 [] yAQ λ_=>rB 3 (fE 0)<|rC 0 [] yDi λ_=>fH 0 [(none,9,3)] [0] [0] [0,8,9] (zTF _ _ _ _ _ _)
end Go.Proofs.YthncchbcdpbgaaaGreat
