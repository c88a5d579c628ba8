/- Parts of the proof that the law returns true: walks of the functions, plain laws. -/
import Derived.Lib.SlicesCompact
import Derived.Sort.Grow
import Derived.Sort.Row
import Derived.Test.YthncchbcdpbgaaaGreatAbB2
set_option linter.unusedVariables false
set_option linter.unusedSimpArgs false
set_option linter.unusedSectionVars false
namespace Go.Ab
open Go Go.RowKit
theorem wH{α β:Type}{x:Option α}{f:α->Option β}{r:β}(h:(x>>=f)=some r):∃v,x=some v/\f v=some r:=by cases x with|none=>cases h|some v=>exact⟨v,rfl,h⟩
theorem ifT{α:Type}{b:Bool}{x y r:α}(hb:b=true)(h:(if b=true then x else y)=r):x=r:=by rwa[if_pos hb]at h
theorem ifF{α:Type}{b:Bool}{x y r:α}(hb:b=false)(h:(if b=true then x else y)=r):y=r:=by rw[hb,if_neg (by simp)]at h;exact h
theorem yO.nil{P:Program}:yO P []:=trivial
theorem yO.cons{P:Program}{o:Ob}{l:List Ob}(h:o.ok P)(k:yO P l):yO P (o::l):=⟨h,k⟩
theorem zGR{P:Program}{b b':Bool}(h:b=b'):Ob.ok P (.bit b b'):=h
theorem D4{P:Program}{f:FuncId}{H0:List yC}{args:List AV}{res:AV}{H1:List yC}{nst:Nat}(h:CT P f H0 args res H1 nst):Ob.ok P (.call f H0 args res H1 nst):=h
theorem R1{P:Program}{es:List AV}(h:AV.DataL es):Ob.ok P (.data es):=h
theorem vP.nilcase{P:Program}{f:FuncId}{H0 H1:List yC}{es:List AV}{n:Nat}{as0:List AV}{res:AV}{nst:Nat}(h0:es=[]->vP P f H0 (.sl es n .nl::as0) res H1 nst)(h1:vP P f H0 (.sl es n .nn::as0) res H1 nst):vP P f H0 (.sl es n .no::as0) res H1 nst:=by intro G0 W cargs hB hR hv;cases hc:cargs.toList with|nil=>rw[hc]at hv;simp only[VL]at hv|cons u us=>
 rw[hc]at hv;simp only[VL]at hv;obtain⟨hu,hus⟩:=hv;simp only[V]at hu;obtain⟨cap,hcap,⟨q1,q2,q3,q4,_⟩|⟨b,off,q1,q2,_⟩⟩:=hu;·cases hs:jO u with|none=>refine h0 q1 G0 W cargs hB hR ?_;rw[hc];simp only[VL];exact⟨by simp only[V];exact⟨cap,hcap,.inl ⟨q1,q2,q3,q4,hs⟩⟩,hus⟩|some a=>refine h1 G0 W cargs hB hR ?_;rw[hc];simp only[VL];exact⟨by simp only[V];exact⟨cap,hcap,.inl ⟨q1,q2,q3,q4,a,hs⟩⟩,hus⟩
 ·refine h1 G0 W cargs hB hR ?_;rw[hc];simp only[VL];exact⟨by simp only[V];exact⟨cap,hcap,.inr ⟨b,off,q1,q2,trivial⟩⟩,hus⟩
theorem bR{α:Type}{c:α->List AV}{sz:Nat}(hc:wV c sz)(h:0<sz){l:List α}(hl:zI c l=[]):l=[]:=by have:=vM hc.len l;rw[hl]at this;cases l with|nil=>rfl|cons x l=>simp only[List.length_nil,List.length_cons]at this;exact absurd this.symm (Nat.ne_of_gt (Nat.mul_pos (Nat.succ_pos _) h))
variable{P:Program}{pr:FuncId->List AV->yM->Option LA}(hp:uQ P pr)(hm:P.follows .mixedOrders=true){na:Nb}{fn:Func}{f:FuncId}
include hp hm
theorem vP.toHead{H0 H1:List yC}{args:List AV}{res:AV}{nst:Nat}(hf:P.funcs[f]?=some fn)(hb:fn.body.isNone=false)(n:Nat)(os:List pR)(rs:List (Option Nat×Nat×Nat))(keep ks live:List Nat){c:Code}{fs':List Fr}{E:(Nat->Value)->List AV}{S:yM}{ob:List Ob}(h:∀j,bN P pr H0.length n (.run (tT fn)) [] (args++List.replicate (fn.ntmps-args.length) (.val undef)) (I1 H0) os rs keep ks live j=some (c,fs',E j,S,ob))(hob:yO P ob)(hk:∀j,Dl P H0.length c (E j) S (xV P H0.length (kN P H0.length fn res H1 nst) fs')):vP P f H0 args res H1 nst:=vP.body hf hb (zCn (na:=(H0.length:Nb)) (m:=.run (tT fn)) (fs:=[]) hp hm h hob hk)
theorem vP.toFin{H0 H1:List yC}{args:List AV}{res:AV}{nst:Nat}(hf:P.funcs[f]?=some fn)(hb:fn.body.isNone=false)(n:Nat)(os:List pR)(rs:List (Option Nat×Nat×Nat))(keep ks:List Nat)(own:Bool){ob:List Ob}(h:L3 P pr H0.length fn n (.run (tT fn)) [] (args++List.replicate (fn.ntmps-args.length) (.val undef)) (I1 H0) os rs keep ks own=some (res,H1,ob))(hob:yO P ob)(hn:nst<=ks.length):vP P f H0 args res H1 nst:=vP.body hf hb (M7 (na:=(H0.length:Nb)) (m:=.run (tT fn)) (fs:=[]) hp hm h hob hn)
theorem Dl.toHead{Q:AX->List AV->yM->Prop}{c c':Code}{fs fs':List Fr}{env:List AV}{s S:yM}(n:Nat)(os:List pR)(rs:List (Option Nat×Nat×Nat))(keep ks live:List Nat){E:(Nat->Value)->List AV}{ob:List Ob}(h:∀j,bN P pr na.n n (.run c) (.loop c::fs) env s os rs keep ks live j=some (c',fs',E j,S,ob))(hob:yO P ob)(hk:∀j,Dl P na c' (E j) S (xV P na Q fs')):Dl P na c env s (xV P na Q fs):=Dl.step (zCn hp hm (Q:=Q) (m:=.run c) (fs:=.loop c::fs) h hob hk)
theorem Dl.toFin{c:Code}{fs:List Fr}{env:List AV}{s:yM}{res:AV}{H1:List yC}{nst:Nat}(n:Nat)(os:List pR)(rs:List (Option Nat×Nat×Nat))(keep ks:List Nat)(own:Bool){ob:List Ob}(h:L3 P pr na.n fn n (.run c) (.loop c::fs) env s os rs keep ks own=some (res,H1,ob))(hob:yO P ob)(hn:nst<=ks.length):Dl P na c env s (xV P na (kN P na fn res H1 nst) fs):=Dl.step (M7 hp hm (m:=.run c) (fs:=.loop c::fs) h hob hn)
end Go.Ab
namespace Go.Ab
open Go Go.RowKit
theorem D5{P:Program}{ops:Array Oper}{Q:Exit->Act->World->Prop}{rest:List Nat}:∀(l:List (Nat×Option LA))(S S':ST),mK P ops l S S'->∀(G:Gh)(a:Act)(w:World),oT G S a w->(∀G' a' w',wF G w G' w'->oT G' S' a' w'->wpOps P ops Q rest a' w')->wpOps P ops Q (l.map (·.1)++rest) a w|[],S,S',h,G,a,w,hR,hQ=>by simp only[mK]at h;subst h;exact hQ G a w (wF.refl G w) hR|p::l,S,S',h,G,a,w,hR,hQ=>by obtain⟨S₁,h1,h2⟩:=h;rw[List.map_cons,List.cons_append,wpOps_cons];refine h1.wp hR λG' a' w' hE hR'=>?_;exact D5 l S₁ S' h2 G' a' w' hR' λG2 a2 w2 hE2 hR2=>hQ G2 a2 w2 (hE.trans hE2) hR2
theorem zIC{P:Program}{dst:Option Tmp}{type:TypeId}{pos:String}{after:Array Edge}{guard:Option (Nat×Bool)}{g:Operand}{args:Array Operand}{argTypes:Array TypeId}{f:FuncId}{fn:Func}{a:Act}{w:World}{K:Act->World->Prop}{Q:Exit->Act->World->Prop}(hg:a.eval g=.func (.func f) #[] #[])(hf:P.funcs[f]?=some fn)(hname:(fn.name=="runtime.NumGoroutine")=false)(hb:fn.body.isNone=false)(h:Calls P f (args.map a.eval) w λe w'=>∃u,e=.returned u/\K (a.put dst u) w'):Oper.wp P ⟨dst,.call {callee:=.value g,args:=args,argTypes:=argTypes},type,pos,after,guard⟩ a w K Q:=by
 have hrun:(execOp a.eval ⟨dst,.call {callee:=.value g,args:=args,argTypes:=argTypes},type,pos,after,guard⟩).run P w=.ok (.enter f (args.map a.eval)) w:=by
  simp only[execOp,resolve,hg,Deferred.ofValue,Sem.run_bind,Sem.run_pure,Result.andThen_ok,invoke,callFunc];have hname':¬fn.name="runtime.NumGoroutine":=by simpa using hname
  have hb':¬fn.body=none:=by intro e;rw[e]at hb;cases hb
  simp[program,Sem.run,hf,hname',hb']
 unfold Oper.wp;rw[hrun,Oper.upon_enter];refine h.mono λe w' he=>?_;obtain⟨u,rfl,hK⟩:=he;exact hK
theorem vX.cell{F:Nat->Prop}{w w':World}(h:vX F w w'){b o:Nat}(hb:F b):w'.cell? ⟨b,o,none⟩=w.cell? ⟨b,o,none⟩:=by simp only[World.cell?,h.block b hb]
def R2(keep:List Nat):List (Nat×yC)->List (Nat×yC)|[]=>[]|p::l=>bif tW keep p.1 then p::R2 keep l else R2 keep l
theorem kO{keep:List Nat}:∀(l:List (Nat×yC))(i:Nat),look (R2 keep l) i=if tW keep i=true then look l i else none|[],i=>by simp[R2,look]|p::l,i=>by simp only[R2];cases hb:tW keep p.1 with
 |true=>simp only[cond_true,look,kO l i];cases he:Nat.beq i p.1 with|true=>have:=Nat.eq_of_beq_eq_true he;subst this;simp only[cond_true,hb,if_true]|false=>simp only[cond_false]
 |false=>simp only[cond_false,look,kO l i];cases he:Nat.beq i p.1 with|true=>have:=Nat.eq_of_beq_eq_true he;subst this;simp[hb]|false=>simp only[cond_false]
def mO(keep:List Nat)(s:yM):yM:=⟨R2 keep s.H,s.nx,[],0,[]⟩
def yC.lit:yC->Prop|.cells cs=>∀(G G':Gh)(w w':World)(us:List Value),G'.F=G.F->(∀b o,G.F b->G.L b o->G'.L b o)->(∀b o,G.F b->w'.cell? ⟨b,o,none⟩=w.cell? ⟨b,o,none⟩)->VL G w cs us->VL G' w' cs us|_=>False
def zKT(G0 G:Gh)(keep:List Nat)(S:Nat->Nat->Prop):Gh:=⟨λi=>if tW keep i=true then G.ρ i else none,λ_=>none,λb o=>G0.L b o\/S b o,G0.w0,G0.F,λ_=>False⟩
theorem zSh{na:Nb}{G0 G:Gh}{W w w':World}{s:yM}{keep:List Nat}{S:Nat->Nat->Prop}{b:Nat}(hB:v7 na G0)(hn:na.n=0)(hE:wF G0 W G w)(hR:yG G (yQ (wW 0) s) w)(hbF:¬G0.F b)(hbρ:∀i,G.ρ i≠some b)(hK:vX (λc=>c<w.heap.size/\c≠b) w w')(hlit:∀i X,tW keep i=true->look s.H i=some X->X.lit)(hS:∀c o,S c o->c=b/\∃v,w'.cell? ⟨c,o,none⟩=some v):wF G0 W (zKT G0 G keep S) w'/\yG (zKT G0 G keep S) (yQ (wW 0) (mO keep s)) w':=by
 have hLlt:∀c o,G0.L c o->c<w.heap.size/\c≠b:=λc o e=>⟨hR.base c (by rw[hE.F];exact hB.LF c o e),λec=>hbF (ec▸hB.LF c o e)⟩;have hcell:∀c o,G0.L c o->w'.cell? ⟨c,o,none⟩=w.cell? ⟨c,o,none⟩:=λc o e=>hK.cell (hLlt c o e);have hH:∀i,(yQ (wW 0) (mO keep s)).H i=if tW keep i=true then look s.H i else none:=λi=>by rw[xH];exact kO _ _
 refine⟨⟨λi c e=>?_,λk r e=>?_,λ_ _ e=>.inl e,λc o e=>(hcell c o e).trans (hE.cell c o e),rfl,rfl,λc o e=>e.imp id λq=>by rw[(hS c o q).1];exact hbF,λi b m e _=>(by rw[(hB.ρ i (by omega)).1]at e;cases e),λi e=>absurd e (hB.ρ i (by omega)).2⟩,⟨λi=>?_,?_,λi j c hi hj=>?_,λi c X hi hX=>?_,λc o e=>?_,λ_ _=>rfl,λk hk=>?_,λk k' c f t f' t' hk=>?_,?_,λk hk=>?_⟩⟩;·rw[(hB.ρ i (by omega)).1]at e;cases e
 ·rw[hB.τ k]at e;cases e
 ·rw[hH];show kC (if tW keep i=true then G.ρ i else none) False _;split
  ·rename_i hm;have hd:=hR.dom i;rw[xH]at hd;refine⟨λe=>.inr ?_,λe=>⟨(hd.2.1 e).1,id⟩,λe=>e.elim⟩;rcases hd.1 e with q|q;·cases hX:look s.H i with|none=>rfl|some X=>have hl:=hlit i X hm hX;have hv:=(hd.2.2 q).2 X hX;cases X with|cells cs=>exact hv.elim|obj o=>exact hl.elim|row cs=>exact hl.elim|dead=>exact hl.elim
   ·exact q
  ·exact⟨λ_=>.inr rfl,λ_=>⟨rfl,id⟩,λe=>e.elim⟩
 ·obtain⟨N,hN⟩:=hR.fin;refine⟨N,λi hi=>?_⟩;have:=hN i hi;rw[xH]at this;rw[hH];split;·exact this
  ·rfl
 ·have hi':(if tW keep i=true then G.ρ i else none)=some c:=hi;have hj':(if tW keep j=true then G.ρ j else none)=some c:=hj;split at hi'
  ·split at hj'
   ·rename_i h1 h2;have hno:∀t,tW keep t=true->(yQ (wW 0) s).H t≠some .dead:=λt ht hd=>by rw[xH]at hd;exact hlit t _ ht hd
    rcases hR.inj i j c hi' hj' with q|q|q;·exact .inl q
    ·exact(hno i h1 q).elim
    ·exact(hno j h2 q).elim
   ·cases hj'
  ·cases hi'
 ·have hi':(if tW keep i=true then G.ρ i else none)=some c:=hi;split at hi';·rename_i hm;rw[hH,if_pos hm]at hX;obtain⟨q1,q2⟩:=hR.blk i c X hi' (by rw[xH];exact hX);refine⟨by rw[hE.F]at q1;exact q1,?_⟩;have hl:=hlit i X hm hX;cases X with
   |cells cs=>
    obtain⟨vs',T,q3,q4⟩:=q2;refine⟨vs',T,?_,q4.imp λus h=>hl G _ w w' us hE.F.symm (λb o h1 h2=>?_) (λb o h1=>?_) h⟩;·rw[hK.block c ⟨(Array.getElem?_eq_some_iff.1 q3).1,λe=>hbρ i (e▸hi')⟩];exact q3
    ·exact .inl ((hE.newL b o h2).resolve_right λh=>h (by rw[<-hE.F];exact h1))
    ·exact hK.cell ⟨hR.base b h1,λe=>hbF (by rw[<-hE.F];exact e▸h1)⟩|obj o=>exact hl.elim|row cs=>exact hl.elim|dead=>exact hl.elim
  ·cases hi'
 ·rcases e with e|e
  ·obtain⟨⟨v,hv⟩,q⟩:=hR.live c o (hE.L c o e);refine⟨⟨v,(hcell c o e).trans hv⟩,λi hi=>?_⟩;have hi':(if tW keep i=true then G.ρ i else none)=some c:=hi;split at hi';·exact q i hi'
   ·cases hi'
  ·obtain⟨rfl,hv⟩:=hS c o e;refine⟨hv,λi hi=>?_⟩;have hi':(if tW keep i=true then G.ρ i else none)=some c:=hi;split at hi';·exact hbρ i hi'
   ·cases hi'
 ·simp[tI,mO]at hk
 ·simp[tI,mO]at hk
 ·have:=hR.below;rw[hE.F,hE.w0]at this;exact this.trans (hK.mono λk hk=>⟨hR.base k (by rw[hE.F];exact hk),λe=>hbF (e▸hk)⟩)
 ·exact Nat.lt_of_lt_of_le (hR.base k (by rw[hE.F];exact hk)) hK.size
theorem zID{keep:List Nat}{s:yM}(h:s.Ok):(mO keep s).Ok:=by
 refine⟨λi X hX=>?_,λk hk=>by simp[mO]at hk,(λk h=>by cases h),Nat.zero_le _⟩;have hX':look (R2 keep s.H) i=some X:=hX;rw[kO]at hX';split at hX';·exact h.H i X hX'
 ·cases hX'
def mutEnv(keep:List Nat)(j:Nat->Value):List AV->Nat->List AV|[],_=>[]|a::l,t=>(match a with|.val v=>.val v|.mp i off=>bif tW keep i then .mp i off else .val (j t)|_=>.val (j t))::mutEnv keep j l (t+1)
theorem VL.mutEnv{G0 G:Gh}{w w':World}{keep:List Nat}{S:Nat->Nat->Prop}(us0:List Value):∀(env:List AV)(us:List Value)(t:Nat),VL G w env us->(∀i,us0.getD (t+i) undef=us.getD i undef)->VL (zKT G0 G keep S) w' (Ab.mutEnv keep (λt=>us0.getD t undef) env t) us
 |[],[],_,_,_=>by simp[Ab.mutEnv,VL]|a::as0,u::us,t,hv,hu=>by
  simp only[VL]at hv;have h0:us0.getD t undef=u:=by have:=hu 0;simpa using this
  simp only[Ab.mutEnv,VL];refine⟨?_,VL.mutEnv us0 as0 us (t+1) hv.2 (λi=>?_)⟩
  ·have h1:=hv.1;split;·simpa only[V]using h1
   ·rename_i i off;cases hm:tW keep i with|true=>simp only[V,cond_true]at h1⊢;obtain⟨c,hc,rfl⟩:=h1;exact⟨c,by show(if tW keep i=true then G.ρ i else none)=_;rw[if_pos hm];exact hc,rfl⟩|false=>simp only[cond_false,V];exact h0.symm
   ·simp only[V];exact h0.symm
  ·have:=hu (i+1);rw[show t+1+i=t+(i+1)by omega,this];simp|[],_::_,_,h,_=>by simp only[VL]at h|_::_,[],_,h,_=>by simp only[VL]at h
theorem VL.put{G:Gh}{w:World}:∀(as0:List AV)(us:List Value),VL G w as0 us->∀(i:Nat)(a:AV),(∀u,us[i]?=some u->V G w a u)->VL G w (as0.set i a) us
 |[],[],_,i,a,_=>by simp[VL]|x::as0,y::us,h,i,a,hv=>by simp only[VL]at h;cases i with|zero=>simp only[List.set_cons_zero,VL];exact⟨hv y rfl,h.2⟩|succ i=>simp only[List.set_cons_succ,VL];exact⟨h.1,VL.put as0 us h.2 i a λu hu=>hv u (by simpa using hu)⟩
 |[],_::_,h,_,_,_=>by simp only[VL]at h|_::_,[],h,_,_,_=>by simp only[VL]at h
def vS:Code->Array Oper|.region _ ops _=>ops|_=>#[]
def R3:Code->Bool|.region _ _ false=>true|_=>false
def zRK:Code->Bool|.ret=>true|_=>false
def zIE:Option Oper->Option (Option Tmp×Operand)|some ⟨d,.move x,_,_,_,none⟩=>some (d,x)|some ⟨d,.assign x,_,_,_,none⟩=>some (d,x)|_=>none
def zEY:Option Oper->Option (Option Tmp×FuncId×Array Operand)|some ⟨d,.call {callee:=.value (.func f),args,argTypes:=_},_,_,_,none⟩=>some (d,f,args)|_=>none
section
variable{P:Program}{a:Act}{w:World}{Q:Exit->Act->World->Prop}
theorem zAS{c:Code}(hk:knd c=1)(h:(iH c).wp P (Exit.then ((sJ c).wp P Q) Q) a w):c.wp P Q a w:=by cases c<;>first|exact wp_seq h|cases hk
theorem cF{c:Code}(hk:R3 c=true){l:List Nat}(hl:List.range (vS c).size=l)(h:wpOps P (vS c) Q l a w):c.wp P Q a w:=by subst hl;cases c with
 |region id ops draw=>cases draw with|false=>exact wp_region h|true=>cases hk
 |_=>cases hk
theorem zOe{c:Code}(hk:zRK c=true)(h:Q .ret a w):c.wp P Q a w:=by cases c<;>first|exact wp_ret h|cases hk
theorem bS{ops:Array Oper}{rest:List Nat}{i:Nat}{d:Option Tmp}{x:Operand}(hop:zIE ops[i]?=some (d,x))(h:wpOps P ops Q rest (a.put d (a.eval x)) w):wpOps P ops Q (i::rest) a w:=by
 rw[wpOps_cons];unfold wpOp;unfold zIE at hop;split at hop
 ·rename_i o e;cases hop;rw[e];simp only[Region.wanted,if_true];refine .inl ?_;unfold Oper.wp;simpa[execOp,Oper.upon]using h
 ·rename_i o e;cases hop;rw[e];simp only[Region.wanted,if_true];refine .inl ?_;unfold Oper.wp;simpa[execOp,Oper.upon]using h
 ·cases hop
theorem R4{ops:Array Oper}{rest:List Nat}{i:Nat}{d:Option Tmp}{args:Array Operand}{f:FuncId}{fn:Func}(hop:zEY ops[i]?=some (d,f,args))(hf:P.funcs[f]?=some fn)(hname:(fn.name=="runtime.NumGoroutine")=false)(hb:fn.body.isNone=false)(h:Calls P f (args.map a.eval) w λe w'=>∃u,e=.returned u/\wpOps P ops Q rest (a.put d u) w'):wpOps P ops Q (i::rest) a w:=by
 rw[wpOps_cons];unfold wpOp;unfold zEY at hop;split at hop;·rename_i e;cases hop;rw[e];simp only[Region.wanted,if_true];exact .inl (zIC (f:=f) (fn:=fn) rfl hf hname hb h)
 ·cases hop
end
def tells:List (Nat×AV)->List AV->List AV|[],env=>env|p::l,env=>tells l (env.set p.1 p.2)
theorem VL.tells{G:Gh}{w:World}:∀(l:List (Nat×AV))(as0:List AV)(us:List Value),VL G w as0 us->(∀p∈l,∀u,us[p.1]?=some u->V G w p.2 u)->VL G w (Ab.tells l as0) us|[],_,_,h,_=>h|p::l,as0,us,h,k=>VL.tells l _ us (VL.put as0 us h p.1 p.2 (k p List.mem_cons_self)) λq hq=>k q (List.mem_cons_of_mem _ hq)
theorem VL.getE{G:Gh}{w:World}{env:List AV}{us:List Value}(h:VL G w env us){t:Nat}{u:Value}(hu:us[t]?=some u):V G w (eget env t) u:=by
 have:=V.eget env us h t;have e:us.getD t undef=u:=by simp[List.getD,hu]
 rwa[e]at this
theorem Dv.mut{P:Program}{pr:FuncId->List AV->yM->Option LA}(hp:uQ P pr){na:Nb}(hn:na.n=0){Q:AX->List AV->yM->Prop}{id:Nat}{ops:Array Oper}{env env1:List AV}{s s1 s3:yM}{os os2:List pR}{ob ob2:List Ob}(p:Nat)(keep:List Nat)(tell:List (Nat×AV))(res:AV){dst:Option Tmp}{tA:Tmp}{f:FuncId}{fn:Func}{E3:(Nat->Value)->List AV}(h1':(L2 P pr ops (ops.toList.take p) 0 env s os).map Prod.snd=some (env1,s1,[],ob))(hob:yO P ob)(hop:zEY ops[p]?=some (dst,f,#[.tmp tA]))(hf:P.funcs[f]?=some fn)(hname:(fn.name=="runtime.NumGoroutine")=false)(hb:fn.body.isNone=false)(hlit:∀i X,tW keep i=true->look s1.H i=some X->X.lit)(hcall:∀G0 W,v7 na G0->∀G w,wF G0 W G w->yG G (yQ (wW 0) s1) w->∀u,V G w (eget env1 tA) u->Calls P f #[u] w λe w'=>∃(v:Value)(b:Nat)(S:Nat->Nat->Prop),e=.returned v/\¬G.F b/\(∀i,G.ρ i≠some b)/\vX (λc=>c<w.heap.size/\c≠b) w w'/\(∀c o,S c o->c=b/\∃x,w'.cell? ⟨c,o,none⟩=some x)/\∀G',wF G0 W G' w'->vX G'.F G'.w0 w'->(∀c o,S c o->G'.L c o)->V G' w' res v/\∀q∈tell,∀u',V G w (eget env1 q.1) u'->V G' w' q.2 u')(h2':∀j,(L2 P pr ops (ops.toList.drop (p+1)) (p+1) (eset (tells tell (mutEnv keep j env1 0)) dst res) (mO keep s1) os2).map Prod.snd=some (E3 j,s3,[],ob2))(hob2:yO P ob2)(hk:∀j,Q .normal (E3 j) s3):Dv P na (.region id ops false) env s Q:=by
 have mp:∀{x:Option (List (Nat×Option LA)×List AV×yM×List pR×List Ob)}{y},x.map Prod.snd=some y->∃r,x=some (r,y):=by intro x y h;simp only[Option.map_eq_some_iff]at h;obtain⟨⟨r,z⟩,h1,rfl⟩:=h;exact⟨r,h1⟩
 obtain⟨r,h1⟩:=mp h1';intro G0 W hB G a w hE hok hR;have hlt:p<ops.size:=by
  rcases Nat.lt_or_ge p ops.size with h|h;·exact h
  ·rw[Array.getElem?_eq_none h]at hop;cases hop
 obtain⟨_,q2,q3⟩:=M6 hp (ops.toList.take p) 0 env s os r _ _ _ _ (λk o e=>by
  rw[List.getElem?_take]at e;split at e;·simpa using e
  ·cases e) h1 hob;obtain⟨o1,r1⟩:=q3 (wW 0) 0 hok (λ_ _ _=>rfl);refine wp_region ?_;have hr:List.range ops.size=r.map (·.1)++p::List.range' (p+1) (ops.size-(p+1)):=by
  rw[q2,List.range_eq_range'];have hl:(ops.toList.take p).length=p:=by simp;omega
  rw[hl,show p::List.range' (p+1) (ops.size-(p+1))=List.range' p (ops.size-p)by rw[show ops.size-p=(ops.size-(p+1))+1 by omega,List.range'_succ]];have:=List.range'_append (s:=0) (m:=p) (n:=ops.size-p) (step:=1);simp only[Nat.one_mul,Nat.zero_add]at this;rw[this];congr 1;omega
 rw[hr];refine D5 r _ _ r1 G a w hR λG1 a1 w1 hE1 hR1=>?_;have hEE:=hE.trans hE1;have hu:V G1 w1 (eget env1 tA) (a1.eval (.tmp tA)):=by have:=V.aev hR1.env (.tmp tA);simpa[aev]using this
 refine R4 hop hf hname hb ?_;rw[show Array.map a1.eval #[Operand.tmp tA]=#[a1.eval (Operand.tmp tA)]by simp];refine(hcall G0 W hB G1 w1 hEE hR1.st _ hu).mono ?_;rintro e w2⟨v,b,S,rfl,hbF,hbρ,hK,hS,hV⟩;refine⟨v,rfl,?_⟩;obtain⟨hE2,hR2⟩:=zSh (keep:=keep) hB hn hEE hR1.st (by rw[<-hEE.F];exact hbF) hbρ hK hlit hS;obtain⟨hv,ht⟩:=hV _ hE2 hR2.below (λc o h=>.inr h);have henv:VL (zKT G0 G1 keep S) w2 (eset (tells tell (mutEnv keep (λt=>a1.tmps.toList.getD t undef) env1 0)) dst res) (a1.put dst v).tmps.toList:=by refine VL.eset ?_ dst hv;refine VL.tells tell _ _ (VL.mutEnv _ env1 _ 0 hR1.env (λi=>by rw[Nat.zero_add])) λq hq u' hu'=>ht q hq u' (hR1.env.getE hu')
 have hR3:oT (zKT G0 G1 keep S) ⟨eset (tells tell (mutEnv keep (λt=>a1.tmps.toList.getD t undef) env1 0)) dst res,yQ (wW 0) (mO keep s1)⟩ (a1.put dst v) w2:=⟨hR2,henv,by rw[zAD];exact hR1.dfr⟩;have hok2:=zID (keep:=keep) o1;obtain⟨r2,h2⟩:=mp (h2' λt=>a1.tmps.toList.getD t undef);obtain⟨_,q5,q6⟩:=M6 hp (ops.toList.drop (p+1)) (p+1) _ _ os2 r2 _ _ _ _ (λk o e=>by rw[List.getElem?_drop]at e;simpa using e) h2 hob2;obtain⟨o3,r3⟩:=q6 (wW 0) 0 hok2 (λ_ _ _=>rfl);have e5:List.range' (p+1) (ops.size-(p+1))=r2.map (·.1)++[]:=by rw[q5,List.append_nil];simp
 rw[e5];refine D5 r2 _ _ r3 _ _ w2 hR3 λG4 a4 w4 hE4 hR4=>?_;exact⟨.normal,_,s3,G4,rfl,hk _,hE2.trans hE4,o3,hR4⟩
theorem zUN{c:Code}(hk:R3 c=true):∃id,c=.region id (vS c) false:=by cases c with
 |region id ops draw=>cases draw with|false=>exact⟨id,rfl⟩|true=>cases hk
 |_=>cases hk
theorem Dv.seqP{P:Program}{na:Nb}{c:Code}{env:List AV}{s:yM}{Q:AX->List AV->yM->Prop}(hk:knd c=1)(h:Dv P na (iH c) env s (zKB (λe s=>Dv P na (sJ c) e s Q) Q)):Dv P na c env s Q:=by cases c<;>first|exact Dv.seq h|cases hk
open Go.Lib
def R5(x:Int):List Int->List Int|[]=>[x]|y::l=>if x<=y then x::y::l else y::R5 x l
def dF:List Int->List Int|[]=>[]|x::l=>R5 x (dF l)
def pI:List Int->List Int|[]=>[]|x::l=>match l with|[]=>[x]|y::_=>if x=y then pI l else x::pI l
def wT(l:List Int):List Int:=pI (dF l)
theorem cG(x:Int):∀l,(R5 x l).Perm (x::l)
 |[]=>.refl _|y::l=>by
  simp only[R5];split;·exact .refl _
  ·exact((cG x l).cons y).trans (.swap x y l)
theorem kP:∀l,(dF l).Perm l|[]=>.refl _|x::l=>(cG x (dF l)).trans ((kP l).cons x)
theorem bT(x:Int):∀l,l.Pairwise (·<=·)->(R5 x l).Pairwise (·<=·)
 |[],_=>by simp[R5]|y::l,h=>by
  simp only[R5];rw[List.pairwise_cons]at h;split
  ·rename_i hxy;rw[List.pairwise_cons];refine⟨λz hz=>?_,List.pairwise_cons.2 h⟩;rcases List.mem_cons.1 hz with rfl|hz;·exact hxy
   ·exact Int.le_trans hxy (h.1 z hz)
  ·rename_i hxy;rw[List.pairwise_cons];refine⟨λz hz=>?_,bT x l h.2⟩;rcases List.mem_cons.1 ((cG x l).mem_iff.1 hz)with rfl|hz;·omega
   ·exact h.1 z hz
theorem kQ:∀l,(dF l).Pairwise (·<=·)|[]=>.nil|x::l=>bT x _ (kQ l)
theorem L4(l:List Int):l.mergeSort (λx y=>decide (x<=y))=dF l:=by
 have h1:(l.mergeSort (λx y=>decide (x<=y))).Perm (dF l):=(List.mergeSort_perm l _).trans (kP l).symm;have h2:(l.mergeSort (λx y=>decide (x<=y))).Pairwise (·<=·):=by have:=List.pairwise_mergeSort (le:=λ(x y:Int)=>decide (x<=y)) (λa b c h1 h2=>by simp only[decide_eq_true_eq]at*;omega) (λa b=>by simp only[Bool.or_eq_true,decide_eq_true_eq];omega) l;exact this.imp λh=>by simpa using h
 exact h1.eq_of_pairwise (λa b _ _ h1 h2=>Int.le_antisymm h1 h2) h2 (kQ l)
theorem qS(x y:Int)(l:List Int):pI (x::y::l)=if x=y then pI (y::l)else x::pI (y::l):=rfl
theorem n6(x:Int):∀l:List Int,pI (l++[x])=if l=[]\/l.getLast?≠some x then pI l++[x]else pI l
 |[]=>by simp[pI]|[y]=>by
  show pI (y::x::[])=_;rw[qS];by_cases h:y=x;·subst h;simp[pI]
  ·simp[h,pI]|y::z::l=>by
  have ih:=n6 x (z::l);show pI (y::z::(l++[x]))=_;rw[qS,qS];simp only[List.cons_append]at ih;rw[ih];have e:(y::z::l).getLast?=(z::l).getLast?:=by simp[List.getLast?_cons_cons]
  rw[e];by_cases h:y=z;·simp only[h,if_true];split<;>split<;>simp_all
  ·simp only[h,if_false];split<;>split<;>simp_all
theorem bU(zs:List Int):∀m,m<=zs.length->compactUpTo zs.toArray m=pI (zs.take m)
 |0,_=>by simp[compactUpTo,pI]|m+1,h=>by
  rw[compactUpTo_succ,bU zs m (by omega),List.take_succ_eq_append_getElem (by omega),n6];have hm:zs.toArray[m]! =zs[m]:=by simp[show m<zs.length by omega]
  rcases Nat.eq_zero_or_pos m with rfl|hpos;·simp[keeps,pI,show 0<zs.length by omega]
  ·have hl:(zs.take m).getLast?=some zs[m-1]:=by rw[List.getLast?_eq_getElem?,List.length_take,Nat.min_eq_left (show m<=zs.length by omega),List.getElem?_take_of_lt (show m-1<m by omega),List.getElem?_eq_getElem (show m-1<zs.length by omega)]
   have hm':zs.toArray[m-1]! =zs[m-1]:=by simp[show m-1<zs.length by omega]
   have hne:¬zs.take m=[]:=by intro e;have:=congrArg List.length e;rw[List.length_take,Nat.min_eq_left (show m<=zs.length by omega),List.length_nil]at this;omega
   rw[hl];simp only[hne,false_or,ne_eq,Option.some.injEq];by_cases e:zs[m]=zs[m-1];·rw[keeps_neg hpos (by rw[hm,hm',e])];simp[e]
   ·rw[keeps_pos (by rw[hm,hm'];exact e)];have e':¬zs[m-1]=zs[m]:=λh=>e h.symm;simp[e',hm]
theorem zIF(l:List Int):compactUpTo (l.mergeSort λx y=>decide (x<=y)).toArray (l.mergeSort λx y=>decide (x<=y)).toArray.size=wT l:=by rw[L4];have:=bU (dF l) (dF l).length (Nat.le_refl _);rw[List.take_length]at this;simpa[wT]using this
theorem zCd:∀l:List Int,(pI l).length<=l.length
 |[]=>by simp[pI]|[x]=>by simp[pI]|x::y::l=>by
  rw[qS];have:=zCd (y::l);split;·simp at this⊢;omega
  ·simp at this⊢;omega
theorem R6(l:List Int):(wT l).length<=l.length:=by have:=zCd (dF l);rw[(kP l).length_eq]at this;exact this
end Go.Ab
namespace Go.Ab
open Go Go.RowKit Go.Sort
variable{P:Program}
theorem Calls.args{P:Program}{f:FuncId}{a b:Array Value}{w:World}{R:Ending->World->Prop}(h:a=b)(k:Calls P f b w R):Calls P f a w R:=h▸k
theorem zKU{P:Program}{c:Code}{Q:Exit->Act->World->Prop}{a b:Act}{w:World}(h:a=b)(k:c.wp P Q b w):c.wp P Q a w:=h▸k
theorem bV{α:Type}[Inhabited α](enc:α->Value)(w:World)(b off:Nat)(d:Array α){k:Nat}(hk:k≠b):(putRow enc w b off d).heap[k]?=w.heap[k]?:=by simp only[putRow,mapBlock,Array.getElem?_modify];rw[if_neg (λe=>hk e.symm)]
theorem vX.putRow{α:Type}[Inhabited α](enc:α->Value)(w:World)(n b off:Nat)(d:Array α):vX (λc=>c<w.heap.size/\c≠b) w (putRow enc (Sort.ahead w n) b off d):=⟨rfl,rfl,rfl,by simp,λk hk=>by rw[bV _ _ _ _ _ hk.2];rfl⟩
theorem vX.grow(w:World)(os:Array Obj)(b:Nat):vX (λc=>c<w.heap.size/\c≠b) w (grow w os):=⟨rfl,rfl,rfl,by simp[Sort.grow],λk hk=>by show(w.heap++os)[k]?=_;rw[Array.getElem?_append_left hk.1]⟩
end Go.Ab
namespace Go.Proofs.YthncchbcdpbgaaaGreat
open Go Go.Ab Go.RowKit Go.Sort Go.Proofs Go.Proofs.Tryz
theorem zIG{w:World}{b off cap:Nat}{zs:List Int}(hH:Holds (Value.int .i64) w b off zs.toArray)(hb:b<w.heap.size)(hsz:zs.length<4611686018427387904):Calls prog 292 #[.slice (some ⟨b,off,none⟩) zs.length cap] w λe w'=>e=.returned (.tuple #[])/\∃n os,w'=Sort.grow (putRow (Value.int .i64) (Sort.ahead w n) b off (zs.mergeSort λx y=>decide (x<=y)).toArray) os:=AnyM.slices_Sort_int Tryz.sortI b off cap zs w hH hb hsz
theorem zAT{w:World}{b off cap:Nat}{zs:List Int}(hH:Holds (Value.int .i64) w b off zs.toArray)(hsz:zs.length<4611686018427387904)(hcap:zs.length<=cap):Calls prog 293 #[.slice (some ⟨b,off,none⟩) zs.length cap] w λe w'=>e=.returned (.slice (some ⟨b,off,none⟩) (Go.Lib.compactUpTo zs.toArray zs.toArray.size).length cap)/\∃q,w'=putRow (Value.int .i64) (Sort.ahead w q) b off (Go.Lib.compactUpTo zs.toArray zs.toArray.size++List.replicate (zs.toArray.size-(Go.Lib.compactUpTo zs.toArray zs.toArray.size).length) 0).toArray:=by have:=AnyE.slices_Compact Tryz.cmpI (Value.int .i64) (λ_=>rfl) (EqlAt.intD _ _ .i64) (NeqAt.intD _ _ .i64) 0 Tryz.zeroValue3 b off cap zs.toArray w hH (by simp;omega) (by simpa using hcap);simpa[show Tryz.cmpI_ren.f 43=293 from rfl]using this
theorem n7{w:World}{u:Value}{M:World->Prop}{N:World->Value->Prop}(hs:Calls prog 292 #[u] w λe w1=>e=.returned (.tuple #[])/\M w1)(hc:∀w1,M w1->Calls prog 293 #[u] w1 λe w2=>∃v,e=.returned v/\N w2 v):Calls prog 250 #[u] w λe w'=>∃v,e=.returned v/\N w' v:=by
 refine calls_of_wp func250 (c:=tT f250) (by kernel_rfl) ?_;have k0:knd (tT f250)=1:=by kernel_rfl
 have k1:R3 (iH (tT f250))=true:=by kernel_rfl
 have k2:List.range (vS (iH (tT f250))).size=[0]:=by kernel_rfl
 have k3:zIE (vS (iH (tT f250)))[0]?=some (some 2,.const (.slice none 0 0)):=by kernel_rfl
 have k4:knd (sJ (tT f250))=1:=by kernel_rfl
 have k5:R3 (iH (sJ (tT f250)))=true:=by kernel_rfl
 have k6:List.range (vS (iH (sJ (tT f250)))).size=[0,1]:=by kernel_rfl
 have k7:zIE (vS (iH (sJ (tT f250))))[0]?=some (some 3,.tmp 0):=by kernel_rfl
 have k8:zEY (vS (iH (sJ (tT f250))))[1]?=some (some 4,292,#[.tmp 3]):=by kernel_rfl
 have k9:knd (sJ (sJ (tT f250)))=1:=by kernel_rfl
 have k10:R3 (iH (sJ (sJ (tT f250))))=true:=by kernel_rfl
 have k11:List.range (vS (iH (sJ (sJ (tT f250))))).size=[0,1,2]:=by kernel_rfl
 have k12:zIE (vS (iH (sJ (sJ (tT f250)))))[0]?=some (some 5,.tmp 0):=by kernel_rfl
 have k13:zEY (vS (iH (sJ (sJ (tT f250)))))[1]?=some (some 6,293,#[.tmp 5]):=by kernel_rfl
 have k14:zIE (vS (iH (sJ (sJ (tT f250)))))[2]?=some (some 2,.tmp 6):=by kernel_rfl
 have k15:zRK (sJ (sJ (sJ (tT f250))))=true:=by kernel_rfl
 have k16:(f292.name=="runtime.NumGoroutine")=false:=by kernel_rfl
 have k17:f292.body.isNone=false:=by kernel_rfl
 have k18:(f293.name=="runtime.NumGoroutine")=false:=by kernel_rfl
 have k19:f293.body.isNone=false:=by kernel_rfl
 have k20:f250.ntmps=7:=by kernel_rfl
 have k21:f250.results=#[.tmp 2]:=by kernel_rfl
 rw[k20];revert k0 k1 k2 k3 k4 k5 k6 k7 k8 k9 k10 k11 k12 k13 k14 k15;generalize tT f250=B;intro k0 k1 k2 k3 k4 k5 k6 k7 k8 k9 k10 k11 k12 k13 k14 k15;refine zAS k0 ?_;refine cF k1 k2 ?_;refine bS k3 ?_;unfold wpOps;unfold Exit.then;dsimp only;refine zAS k4 ?_;refine cF k5 k6 ?_;refine bS k7 ?_;refine R4 k8 func292 k16 k17 ?_;refine Calls.args (b:=#[u]) (by simp[Act.eval,Act.put]) (Calls.mono hs ?_);rintro e w1⟨rfl,hM⟩;refine⟨_,rfl,?_⟩;unfold wpOps;unfold Exit.then;dsimp only;refine zKU (b:=⟨#[u,undef,.slice none 0 0,u,.tuple #[],undef,undef],[]⟩) (by simp[Act.eval,Act.put,Array.replicate_succ]) ?_;refine zAS k9 ?_;refine cF k10 k11 ?_;refine bS k12 ?_;refine R4 k13 func293 k18 k19 ?_;refine Calls.args (b:=#[u]) (by simp[Act.eval,Act.put]) (Calls.mono (hc w1 hM) ?_);rintro e w2⟨v,rfl,hN⟩;refine⟨_,rfl,?_⟩;refine bS k14 ?_;unfold wpOps;unfold Exit.then;dsimp only;refine zKU (b:=⟨#[u,undef,v,u,.tuple #[],u,v],[]⟩) (by simp[Act.eval,Act.put]) ?_;refine zOe k15 ?_;exact⟨rfl,v,by simp[results,k21],v,rfl,hN⟩
theorem zIH{w:World}{b off cap:Nat}{zs:List Int}(hH:Holds (Value.int .i64) w b off zs.toArray)(hb:b<w.heap.size)(hsz:zs.length<4611686018427387904)(hcap:zs.length<=cap):Calls prog 250 #[.slice (some ⟨b,off,none⟩) zs.length cap] w λe w'=>e=.returned (.slice (some ⟨b,off,none⟩) (wT zs).length cap)/\vX (λc=>c<w.heap.size/\c≠b) w w'/\∀i(h:i<(wT zs).length),w'.cell? ⟨b,off+i,none⟩=some (.int .i64 (wT zs)[i]):=by
 have hl:(zs.mergeSort λx y=>decide (x<=y)).length=zs.length:=List.length_mergeSort _;refine(n7 (zIG (cap:=cap) hH hb hsz) (N:=λw' v=>v=.slice (some ⟨b,off,none⟩) (wT zs).length cap/\vX (λc=>c<w.heap.size/\c≠b) w w'/\∀i(h:i<(wT zs).length),w'.cell? ⟨b,off+i,none⟩=some (.int .i64 (wT zs)[i])) ?_).mono (λe w'⟨v,h1,h2,h3,h4⟩=>⟨by rw[h1,h2],h3,h4⟩);rintro w1⟨n,os,rfl⟩;have hH1:Holds (Value.int .i64) (Sort.grow (putRow (Value.int .i64) (Sort.ahead w n) b off (zs.mergeSort λx y=>decide (x<=y)).toArray) os) b off (zs.mergeSort λx y=>decide (x<=y)).toArray:=holds_grow _ _ _ _ _ _ (by simpa using hb) (holds_putRow _ _ _ _ zs.toArray _ hH (by simp[hl]));have hc:=zAT (cap:=cap) hH1 (by omega) (by omega);rw[hl]at hc;refine Calls.mono hc ?_;rintro e w2⟨rfl,q,rfl⟩;refine⟨_,rfl,?_⟩;rw[zIF];have hrl:=R6 zs;refine⟨rfl,(vX.trans (vX.trans (vX.putRow _ w n b off _) ((vX.grow _ os b).mono λk hk=>⟨by simpa using hk.1,hk.2⟩)) ((vX.putRow _ _ q b off _).mono λk hk=>⟨?_,hk.2⟩)),λi h=>?_⟩;·show k<((putRow _ _ _ _ _).heap++os).size;simp;have:=hk.1;omega
 ·rw[cell?_putRow (Value.int .i64) _ b off (zs.mergeSort λx y=>decide (x<=y)).toArray _ (holds_ahead _ _ _ _ _ _ hH1) (by simp[hl];omega) i (by simp;omega)];simp[List.getElem?_append_left h,h]
theorem zUO:vP prog 293 [] [.sl [] 0 .no] (.sl [] 0 .no) [] 0:=vP.toFin wG mixed func293 (by kernel_rfl) 3000 [.no,.no] [] [] [] false (by kernel_rfl) (yO.cons (R1 (es:=[]) trivial) yO.nil) (by decide)
def atW(w:World):Gh:=⟨λ_=>none,λ_=>none,λ_ _=>False,w,λc=>c<w.heap.size,λ_=>False⟩
theorem zOd(w:World):yG (atW w) (yQ (wW 0) (I1 [])) w:=by
 refine⟨λ_=>⟨λ_=>.inr rfl,λ_=>⟨rfl,id⟩,λe=>e.elim⟩,⟨0,λ_ _=>rfl⟩,λ_ _ _ h=>?_,λ_ _ _ h=>?_,λ_ _ h=>False.elim h,λ_ _=>rfl,λ_ h=>?_,λ_ _ _ _ _ _ _ h=>?_,vX.refl _ _,λ_ h=>h⟩;·cases h
 ·cases h
 ·cases h
 ·cases h
theorem zKV(w:World):v7 (0:Nat) (atW w):=⟨λ_ _=>⟨rfl,id⟩,λ_=>rfl,λ_ _ h=>False.elim h,trivial⟩
theorem V.none{G G':Gh}{w w':World}{v:Value}(h:V G w (.sl [] 0 .no) v):V G' w' (.sl [] 0 .no) v:=by
 simp only[V]at h⊢;obtain⟨cap,h1,⟨_,_,h2,h3,_⟩|⟨b,off,h2,_,_⟩⟩:=h;·exact⟨cap,h1,.inl ⟨trivial,trivial,h2,h3,trivial⟩⟩
 ·exact⟨cap,h1,.inr ⟨b,off,h2,by simp only[VC],trivial⟩⟩
theorem zII{w:World}{u:Value}{p:Option Addr}{cap:Nat}(hu:u=.slice p 0 cap){G:Gh}(hV:V G w (.sl [] 0 .no) u):Calls prog 250 #[u] w λe w'=>∃v,e=.returned v/\(vX (λc=>c<w.heap.size) w w'/\∀G',V G' w' (.sl [] 0 .no) v):=by
 refine n7 (M:=λw1=>w1=w) (by subst hu;exact AnyM.slices_Sort_int_none Tryz.sortI p cap w) ?_;rintro w1 rfl;refine(zUO (atW w1) w1 #[u] (zKV w1) (zOd w1) ?_).mono ?_;·simp only[VL];exact⟨V.none hV,trivial⟩
 ·rintro e w2⟨v,G',s',rfl,hE,hR,hv,_⟩;refine⟨v,rfl,?_,λG'=>V.none hv⟩;have:=hR.below;rw[hE.F,hE.w0]at this;exact this
theorem VL.ints{G:Gh}{w:World}:∀l:List Int,VL G w (zI zQ l) (l.map (Value.int .i64))|[]=>by simp[zI,VL]|x::l=>by simp only[zI,List.flatMap_cons,List.map_cons];simp only[zQ,List.cons_append,List.nil_append,VL,V];exact⟨trivial,VL.ints l⟩
theorem VL.ints_eq{G:Gh}{w:World}:∀(l:List Int)(us:List Value),VL G w (zI zQ l) us->us=l.map (Value.int .i64)|[],[],_=>rfl|[],_::_,h=>by simp only[zI,List.flatMap_nil,VL]at h|x::l,[],h=>by simp only[zI,List.flatMap_cons,zQ,List.cons_append,VL]at h|x::l,u::us,h=>by simp only[zI,List.flatMap_cons,zQ,List.cons_append,List.nil_append,VL,V]at h;rw[h.1,VL.ints_eq l us h.2];rfl
theorem n8{G:Gh}{w:World}{s:yM}{k:Nat}{l:List Int}{u:Value}(hR:yG G (yQ (wW 0) s) w)(ho:s.own.any (Nat.beq k)=true)(hsz:l.length<4611686018427387904)(hu:V G w (.sl (zI zQ l) l.length (.st k 1)) u):Calls prog 250 #[u] w λe w'=>∃(v:Value)(b:Nat)(S:Nat->Nat->Prop),e=.returned v/\¬G.F b/\(∀i,G.ρ i≠some b)/\vX (λc=>c<w.heap.size/\c≠b) w w'/\(∀c o,S c o->c=b/\∃x,w'.cell? ⟨c,o,none⟩=some x)/\∀G',(∀c o,S c o->G'.L c o)->V G' w' (.sl (zI zQ (wT l)) (wT l).length .no) v:=by
 have hempty:l=[]->∀p cap,u=.slice p 0 cap->V G w (.sl [] 0 .no) u->Calls prog 250 #[u] w λe w'=>∃(v:Value)(b:Nat)(S:Nat->Nat->Prop),e=.returned v/\¬G.F b/\(∀i,G.ρ i≠some b)/\vX (λc=>c<w.heap.size/\c≠b) w w'/\(∀c o,S c o->c=b/\∃x,w'.cell? ⟨c,o,none⟩=some x)/\∀G',(∀c o,S c o->G'.L c o)->V G' w' (.sl (zI zQ (wT l)) (wT l).length .no) v:=by rintro rfl p cap hp hV;refine(zII hp hV).mono ?_;rintro e w'⟨v,rfl,hK,hv⟩;exact⟨v,w.heap.size,λ_ _=>False,rfl,λh=>Nat.lt_irrefl _ (hR.base _ h),λi hi=>Nat.lt_irrefl _ (hR.ρ_lt hi),hK.mono λk hk=>hk.1,λ_ _ h=>h.elim,λG' _=>hv G'⟩
 have hu0:=hu;simp only[V]at hu;obtain⟨cap,hcap,⟨he,hn,hc0,hu',_⟩|⟨b,off,rfl,hC,hq,hO⟩⟩:=hu
 ·have hl:l=[]:=List.length_eq_zero_iff.1 hn;subst hl;exact hempty rfl (jO u) 0 hu' (by simp only[V];exact⟨0,Nat.le_refl _,.inl ⟨trivial,trivial,rfl,hu',trivial⟩⟩)
 ·rcases hO with⟨hn,_⟩|⟨hm,hF,hτ⟩
  ·have hl:l=[]:=List.length_eq_zero_iff.1 hn;subst hl;exact hempty rfl _ cap rfl (by simp only[V];exact⟨cap,Nat.zero_le _,.inr ⟨b,off,rfl,by simp only[VC],trivial⟩⟩)
  ·obtain⟨b',f,t,q1,q2⟩:=hR.own k (by rw[tI];exact ho);rw[hτ]at q1;cases q1;rcases q2 with q2|⟨_,q3,_,vs,T,q5,q6⟩;·omega
   obtain⟨us,h1,h2⟩:=VC.cells _ _ _ hC;have hus:=VL.ints_eq l us h1;subst hus;have hH:Holds (Value.int .i64) w b off l.toArray:=by
    intro j hj;have hj':j<l.length:=by simpa using hj
    refine⟨?_,by simp[World.frozen?,q5]⟩;rw[h2 j (by simpa using hj')];simp[hj']
   have hb:b<w.heap.size:=(Array.getElem?_eq_some_iff.1 q5).1;refine(zIH hH hb hsz hcap).mono ?_;rintro e w'⟨rfl,hK,hcell⟩;refine⟨_,b,λc o=>c=b/\off<=o/\o<off+(wT l).length,rfl,hF,q3,hK,?_,λG' hS=>?_⟩;·rintro c o⟨rfl,h1,h2⟩;exact⟨rfl,.int .i64 ((wT l)[o-off]'(by omega)),by have:=hcell (o-off) (by omega);rwa[show off+(o-off)=o by omega]at this⟩
   ·simp only[V];refine⟨cap,Nat.le_trans (R6 l) hcap,.inr ⟨b,off,rfl,VC.of_cells _ _ b off (VL.ints (wT l)) (λi hi=>hS _ _ ⟨rfl,by omega,?_⟩) (λi hi=>?_),trivial⟩⟩
    ·have:i<(wT l).length:=by simpa using hi
     omega
    ·rw[hcell i (by simpa using hi)];simp
end Go.Proofs.YthncchbcdpbgaaaGreat
namespace Go.Ab
open Go Go.RowKit
def nW:List (ByteArray×Int)->Nat->List MapEntry|[],_=>[]|p::m,c=>{key:=.string p.1,val:=.int .i64 p.2,born:=c}::nW m (c+1)
def R7(m:List (ByteArray×Int)):yC:=.obj (.map ⟨nW m 0⟩ m.length)
def R8:List (ByteArray×Int)->ByteArray->Int|[],_=>0|p::m,k=>if(k==p.1)=true then p.2 else R8 m k
def L5:List (ByteArray×Int)->ByteArray->Int->List (ByteArray×Int)|[],k,v=>[(k,v)]|p::m,k,v=>if(k==p.1)=true then(k,v)::m else p::L5 m k v
def u5:List (ByteArray×Int)->ByteArray->Nat->Option (Nat×Value)|[],_,_=>none|p::m,k,i=>if(k==p.1)=true then some (i,.int .i64 p.2)else u5 m k (i+1)
theorem kR(k:ByteArray):∀(m:List (ByteArray×Int))(c i:Nat),Instr.findNow .string (.string k) (nW m c) i=some (u5 m k i)|[],_,_=>rfl|p::m,c,i=>by simp only[nW,Instr.findNow,Instr.sameNow,u5];cases hb:(k==p.1)with|true=>rfl|false=>simp only[Bool.false_eq_true,if_false];exact kR k m (c+1) (i+1)
theorem zCc(k:ByteArray):∀(m:List (ByteArray×Int))(i:Nat),zKe (u5 m k i) (.int .i64 0)=ai (R8 m k)|[],_=>rfl|p::m,i=>by simp only[u5,R8];cases hb:(k==p.1)with|true=>rfl|false=>simp only[Bool.false_eq_true,if_false];exact zCc k m (i+1)
theorem zCb(k:ByteArray)(v:Int):∀(m:List (ByteArray×Int))(c i:Nat),(match u5 m k i with|some (j,_)=>i<=j/\(nW m c).modify (j-i) (λe=>{e with key:=.string k,val:=.int .i64 v})=nW (L5 m k v) c/\(L5 m k v).length=m.length|none=>nW m c++[{key:=.string k,val:=.int .i64 v,born:=c+m.length}]=nW (L5 m k v) c/\(L5 m k v).length=m.length+1)|[],c,i=>by simp[u5,L5,nW]|p::m,c,i=>by simp only[u5,L5];cases hb:(k==p.1)with|true=>simp[nW]|false=>simp only[Bool.false_eq_true,if_false];have ih:=zCb k v m (c+1) (i+1);cases hm:u5 m k (i+1)with|none=>rw[hm]at ih;simp only at ih⊢;refine⟨?_,by simp[ih.2]⟩;simp only[nW,List.cons_append,List.length_cons];rw[<-ih.1,show c+(m.length+1)=c+1+m.length by omega]|some q=>obtain⟨j,u⟩:=q;rw[hm]at ih;simp only at ih⊢;refine⟨by omega,?_,by simp[ih.2.2]⟩;simp only[nW];rw[show j-i=(j-(i+1))+1 by omega,List.modify_succ_cons,ih.2.1]
variable{P:Program}{t kt et:TypeId}{ie:TypeInfo}
theorem zUP(ht:P.underlying t=some (.map kt et))(hk:P.underlying kt=some .string)(he:P.info? et=some ie)(hz:ie.zero=some (.int .i64 0))(m:List (ByteArray×Int))(k:ByteArray):Ob.ok P (.lk t (R7 m) (at' k) false (ai (R8 m k))):=by intro ev i s hl;unfold kD;simp only[ht,at',hk,he,R7]at hl⊢;simp only[hl,hz,kR,tZ,cond_true,Bool.false_eq_true,if_false,zCc]
theorem zUQ(ht:P.underlying t=some (.map kt et))(hk:P.underlying kt=some .string)(m:List (ByteArray×Int))(k:ByteArray)(v:Int):Ob.ok P (.mu t (R7 m) (at' k) (ai v) (R7 (L5 m k v))):=by intro ev i s hl;unfold sI;simp only[ht,at',ai,hk,R7]at hl⊢;simp only[hl,kR,tZ,cond_true];have h:=zCb k v m 0 0;cases hm:u5 m k 0 with|none=>rw[hm]at h;simp only[Nat.zero_add]at h⊢;rw[h.2,<-h.1];simp|some q=>
 obtain⟨j,u⟩:=q;rw[hm]at h;simp only[Nat.sub_zero]at h⊢;have e:(⟨nW m 0⟩:Array MapEntry).modify j (λe=>{e with key:=.string k,val:=.int .i64 v})=⟨nW (L5 m k v) 0⟩:=by apply Array.ext';rw[Array.toList_modify];exact h.2.1
 rw[h.2.2,e]
def I7(s:ByteArray)(i:Int):Option Int:=if 0<=i then(match s[i.toNat]? with|some b=>some (b.toNat:Int)|none=>none)else none
theorem zKW{k:IntKind}(ht:P.underlying t=some .string){s:ByteArray}{i x:Int}(h:I7 s i=some x):mJ P t (at' s) (.val (.int k i))=some (.val (.int .u8 x)):=by
 unfold I7 at h;unfold mJ;simp only[ht,at'];split at h
 ·rename_i h0;rw[if_pos h0];split at h
  ·rename_i b hb;cases h;rw[hb]
  ·cases h
 ·cases h
theorem zCa:∀l:List U8,eZ (zI cC l)=some l|[]=>rfl|x::l=>by have:=zCa l;unfold zI at this⊢;rw[List.flatMap_cons];show(eZ (l.flatMap cC)).map (x::·)=_;rw[this];rfl
theorem zKX{d e:TypeId}(hs:P.underlying t=some (.slice e))(hd:P.underlying d=some .string)(he:P.underlying e=some (.int .u8))(l:List U8){o:qI}:mV P t d (.sl (zI cC l) l.length o)=some (at' (rG l)):=by unfold mV;simp only[hs,hd,he,zCa];rfl
end Go.Ab
namespace Go.Ab
open Go Go.RowKit
structure Sub(G G':Gh)(p:Nat->Prop):Prop where
 F:G'.F=G.F
 ρ:∀i b,p i->G.ρ i=some b->G'.ρ i=some b
 τ:∀k q,G.τ k=some q->G'.τ k=some q
 L:∀b o,G.L b o->G'.L b o
 N:∀i,p i->G.N i->G'.N i
mutual theorem V.less{G G':Gh}{w:World}{p:Nat->Prop}(h:Sub G G' p):∀(a:AV)(u:Value),a.fine p->V G w a u->V G' w a u
 |.val v,u,_,hv=>by simpa only[V]using hv|.agg cs,u,hi,hv=>by simp only[V,AV.fine]at hi hv⊢;obtain⟨vs,rfl,hl⟩:=hv;exact⟨vs,rfl,VL.less h cs vs hi hl⟩|.tup cs,u,hi,hv=>by simp only[V,AV.fine]at hi hv⊢;obtain⟨vs,rfl,hl⟩:=hv;exact⟨vs,rfl,VL.less h cs vs hi hl⟩|.sl es n o,u,hi,hv=>by
  simp only[V,AV.fine]at hi hv⊢;obtain⟨cap,hc,hh⟩:=hv;refine⟨cap,hc,?_⟩;rcases hh with⟨rfl,h2,h3,h4,h5⟩|⟨b,off,hu,hcells,ho⟩;·exact .inl ⟨rfl,h2,h3,h4,h5.mono h.τ⟩
  ·exact .inr ⟨b,off,hu,VC.data h.L es b off hi hcells,ho.mono h.F h.τ⟩|.ip es,u,hi,hv=>by simp only[V,AV.fine]at hi hv⊢;obtain⟨b,off,hu,hcells⟩:=hv;exact⟨b,off,hu,VC.data h.L es b off hi hcells⟩|.mp i off,u,hi,hv=>by simp only[V,AV.fine]at hi hv⊢;obtain⟨b,hb,hu⟩:=hv;exact⟨b,h.ρ _ _ hi hb,hu⟩|.ms i off n c sz,u,hi,hv=>by
  simp only[V,AV.fine]at hi hv⊢;rcases hv with⟨b,cap,hb,hu⟩|⟨hn,hN,hu⟩;·exact .inl ⟨b,cap,h.ρ _ _ hi hb,hu⟩
  ·exact .inr ⟨hn,h.N _ hi hN,hu⟩|.obj i,u,hi,hv=>by simp only[V,AV.fine]at hi hv⊢;obtain⟨b,hb,hu⟩:=hv;exact⟨b,h.ρ _ _ hi hb,hu⟩|.clo g fs cs,u,hi,hv=>by simp only[V,AV.fine]at hi hv⊢;obtain⟨l,r',hu,h1,h2⟩:=hv;exact⟨l,r',hu,VL.less h fs l hi.1 h1,VL.less h cs r' hi.2 h2⟩theorem VL.less{G G':Gh}{w:World}{p:Nat->Prop}(h:Sub G G' p):∀(as0:List AV)(us:List Value),AV.fineL p as0->VL G w as0 us->VL G' w as0 us|[],[],_,_=>by simp only[VL]|a::as0,u::us,hi,hv=>by simp only[VL,AV.fineL]at hi hv⊢;exact⟨V.less h a u hi.1 hv.1,VL.less h as0 us hi.2 hv.2⟩|[],_::_,_,hv=>by simp only[VL]at hv|_::_,[],_,hv=>by simp only[VL]at hv end
mutual def AV.fz(m:Nat)(cs:List AV):AV->AV|.val v=>.val v|.agg l=>.agg (AV.fzL m cs l)|.tup l=>.tup (AV.fzL m cs l)|.sl es n o=>.sl es n o|.ip es=>.ip es|.mp i off=>.mp i off|.ms i off n c sz=>bif Nat.beq i m then .sl (cs.drop off) n .no else .ms i off n c sz|.obj i=>.obj i|.clo g a b=>.clo g a b def AV.fzL(m:Nat)(cs:List AV):List AV->List AV|[]=>[]|a::l=>AV.fz m cs a::AV.fzL m cs l end
mutual def AV.fzOk(m:Nat):AV->Prop|.val _=>True|.agg l=>AV.fzOkL m l|.tup l=>AV.fzOkL m l|.sl es _ _=>AV.DataL es|.ip es=>AV.DataL es|.mp i _=>i<m|.ms i off _ _ _=>(i=m/\off=0)\/i<m|.obj i=>i<m|.clo _ a b=>AV.fineL (λi=>i<m) a/\AV.fineL (λi=>i<m) b def AV.fzOkL(m:Nat):List AV->Prop|[]=>True|a::l=>AV.fzOk m a/\AV.fzOkL m l end
theorem R9:∀(l:List AV)(n:Nat),AV.DataL l->AV.DataL (l.drop n)|l,0,h=>by simpa using h|[],_+1,_=>trivial|_::l,n+1,h=>by simpa using R9 l n h.2
mutual theorem AV.fz_fine{m:Nat}{cs:List AV}(hc:AV.DataL cs):∀a:AV,a.fzOk m->(a.fz m cs).fine (λi=>i<m)
 |.val _,_=>trivial|.agg l,h=>AV.fzL_fine hc l h|.tup l,h=>AV.fzL_fine hc l h|.sl _ _ _,h=>h|.ip _,h=>h|.mp _ _,h=>h|.ms i off n c sz,h=>by simp only[AV.fz];cases hb:Nat.beq i m with|true=>exact R9 _ _ hc|false=>
  rcases h with⟨rfl,_⟩|h;·simp at hb
  ·exact h|.obj _,h=>h|.clo _ _ _,h=>h theorem AV.fzL_fine{m:Nat}{cs:List AV}(hc:AV.DataL cs):∀l:List AV,AV.fzOkL m l->AV.fineL (λi=>i<m) (AV.fzL m cs l)|[],_=>trivial|a::l,h=>⟨AV.fz_fine hc a h.1,AV.fzL_fine hc l h.2⟩end
mutual theorem V.fz{G G':Gh}{w:World}{m:Nat}{cs:List AV}(h:Sub G G' (λi=>i<m))(hm:∀b,G.ρ m=some b->VC G' w cs b 0)(hc:G.N m->cs=[]):∀(a:AV)(u:Value),a.fzOk m->V G w a u->V G' w (a.fz m cs) u
 |.val v,u,_,hv=>by simpa only[AV.fz,V]using hv|.agg l,u,hi,hv=>by simp only[V,AV.fzOk,AV.fz]at hi hv⊢;obtain⟨vs,rfl,hl⟩:=hv;exact⟨vs,rfl,VL.fz h hm hc l vs hi hl⟩|.tup l,u,hi,hv=>by simp only[V,AV.fzOk,AV.fz]at hi hv⊢;obtain⟨vs,rfl,hl⟩:=hv;exact⟨vs,rfl,VL.fz h hm hc l vs hi hl⟩|.sl es n o,u,hi,hv=>V.less h (.sl es n o) u hi hv|.ip es,u,hi,hv=>V.less h (.ip es) u hi hv|.mp i off,u,hi,hv=>V.less h (.mp i off) u hi hv|.ms i off n c sz,u,hi,hv=>by simp only[AV.fz];cases hb:Nat.beq i m with
  |false=>
   rcases hi with⟨rfl,_⟩|hi;·simp at hb
   ·exact V.less h (.ms i off n c sz) u hi hv|true=>
   have:=Nat.eq_of_beq_eq_true hb;subst this;simp only[V,cond_true]at hv⊢;rcases hi with⟨_,e0⟩|hi
   ·subst e0;rcases hv with⟨b,cap,hb',hn,o,rfl,hro⟩|⟨⟨e1,_⟩,hN,p,rfl⟩
    ·rcases hro with⟨eo,_⟩|⟨_,h0⟩
     ·subst eo;exact⟨cap,Nat.le_trans hn.1 hn.2,.inr ⟨b,_,rfl,by simpa using hm b hb',trivial⟩⟩
     ·exact absurd h0 (Nat.lt_irrefl _)
    ·rw[hc hN];subst e1;exact⟨0,Nat.le_refl 0,.inl ⟨rfl,(by first|rfl|trivial),(by first|rfl|trivial),rfl,trivial⟩⟩
   ·exact absurd hi (Nat.lt_irrefl _)
 |.obj i,u,hi,hv=>V.less h (.obj i) u hi hv|.clo g a b,u,hi,hv=>V.less h (.clo g a b) u hi hv theorem VL.fz{G G':Gh}{w:World}{m:Nat}{cs:List AV}(h:Sub G G' (λi=>i<m))(hm:∀b,G.ρ m=some b->VC G' w cs b 0)(hc:G.N m->cs=[]):∀(as0:List AV)(us:List Value),AV.fzOkL m as0->VL G w as0 us->VL G' w (AV.fzL m cs as0) us|[],[],_,_=>by simp only[AV.fzL,VL]|a::as0,u::us,hi,hv=>by simp only[VL,AV.fzOkL,AV.fzL]at hi hv⊢;exact⟨V.fz h hm hc a u hi.1 hv.1,VL.fz h hm hc as0 us hi.2 hv.2⟩|[],_::_,_,hv=>by simp only[VL]at hv|_::_,[],_,hv=>by simp only[VL]at hv end
def zCA(m:Nat):List (Nat×yC)->List (Nat×yC)|[]=>[]|p::l=>bif Nat.blt p.1 m then p::zCA m l else zCA m l
theorem gM{m:Nat}:∀(l:List (Nat×yC))(i:Nat),look (zCA m l) i=if i<m then look l i else none|[],i=>by simp[zCA,look]|p::l,i=>by simp only[zCA];cases hb:Nat.blt p.1 m with
 |true=>have hb':p.1<m:=Nat.le_of_ble_eq_true hb;simp only[cond_true,look,gM l i];cases he:Nat.beq i p.1 with|true=>have:=Nat.eq_of_beq_eq_true he;simp only[cond_true];rw[if_pos (by omega)]|false=>simp only[cond_false]
 |false=>
  have hb':¬p.1<m:=by intro h;rw[Nat.blt,Nat.ble_eq_true_of_le h]at hb;cases hb
  simp only[cond_false,look,gM l i];cases he:Nat.beq i p.1 with|true=>have:=Nat.eq_of_beq_eq_true he;rw[if_neg (by omega),if_neg (by omega)]|false=>simp only[cond_false]
def yC.alive:yC->Bool|.dead=>false|_=>true
theorem vP.freeze{P:Program}{f:FuncId}{H0 H1:List yC}{args cs:List AV}{res:AV}{nst:Nat}(h:vP P f H0 args res (H1++[.row cs]) nst)(hle:H0.length<=H1.length)(hH1:∀X∈H1,X.fine (λi=>i<H1.length))(hcs:AV.DataL cs)(hr:res.fzOk H1.length)(hnd:H1.all yC.alive=true):vP P f H0 args (res.fz H1.length cs) H1 nst:=by
 intro G0 W cargs hB hR hv;refine(h G0 W cargs hB hR hv).mono ?_;rintro e W'⟨u,G',s',rfl,hE,hR',hu,hb,ho⟩;have hm:look s'.H H1.length=some (.row cs):=hb H1.length _ (by simp);have hm':(yQ (wW 0) s').H H1.length=some (.row cs):=by rw[xH];exact hm
 have real:∀b,G'.ρ H1.length=some b->¬G'.F b/\∃us:List Value,us.length=cs.length/\VL G' W' cs us/\∀i(hi:i<us.length),W'.cell? ⟨b,0+i,none⟩=some us[i]:=by
  intro b hρ;obtain⟨hF,vs,T,hh,us,rest,hus,hvl⟩:=hR'.blk H1.length b _ hρ hm';refine⟨hF,us,VL.length _ _ hvl,hvl,λi hi=>?_⟩;have:vs[i]?=some us[i]:=by
   have h1:vs.toList[i]?=some us[i]:=by rw[hus,List.getElem?_append_left hi,List.getElem?_eq_getElem hi]
   simpa using h1
  rw[Nat.zero_add];simp[World.cell?,hh,this]
 have hNn:G'.N H1.length->cs=[]:=λe=>yC.void_row (hR'.Nvoid e hm');let G'':Gh:={G' with ρ:=λi=>if i<H1.length then G'.ρ i else none,L:=λc o=>G'.L c o\/(G'.ρ H1.length=some c/\o<cs.length),N:=λi=>i<H1.length/\G'.N i};have hS:Sub G' G'' (λi=>i<H1.length):=⟨rfl,λi b hi e=>by show(if i<H1.length then G'.ρ i else none)=_;rw[if_pos hi];exact e,λ_ _ e=>e,λ_ _ e=>.inl e,λ_ hi e=>⟨hi,e⟩⟩;have hC:∀b,G'.ρ H1.length=some b->VC G'' W' cs b 0:=λb hρ=>by obtain⟨_,us,hlen,hvl,hcell⟩:=real b hρ;exact VC.of_cells cs us b 0 (VL.data hS.L cs us hcs hvl) (λi hi=>.inr ⟨hρ,by omega⟩) hcell
 have hσ:∀i,(yQ (wW 0) {s' with H:=zCA H1.length s'.H}).H i=if i<H1.length then look s'.H i else none:=λi=>by rw[xH];exact gM _ _
 have hσ':∀i,(yQ (wW 0) s').H i=look s'.H i:=λi=>xH _ _;refine⟨u,G'',{s' with H:=zCA H1.length s'.H},rfl,⟨λi c hc=>?_,hE.τ,λc o e=>.inl (hE.L c o e),hE.cell,hE.w0,hE.F,λc o e=>?_,hE.room,λi e=>?_⟩,⟨λi=>?_,⟨H1.length,λi hi=>?_⟩,λi j c hi hj=>?_,λi c X hi hX=>?_,λc o hL=>?_,hR'.τns,λk hk=>?_,hR'.ownd,hR'.below,hR'.base⟩,V.fz hS hC hNn _ _ hr hu,λi X hX=>?_,ho⟩
 ·have hi:i<H0.length:=Nat.lt_of_not_le λhge=>by rw[(hB.ρ i hge).1]at hc;cases hc
  show(if i<H1.length then G'.ρ i else none)=_;rw[if_pos (by omega)];exact hE.ρ i c hc
 ·rcases e with e|⟨e,_⟩;·exact hE.newL c o e
  ·exact .inr (by rw[<-hE.F];exact(real c e).1)
 ·have hi:i<H0.length:=Nat.lt_of_not_le λhge=>(hB.ρ i hge).2 e;exact⟨by omega,hE.N i e⟩
 ·rw[hσ];show kC (if i<H1.length then G'.ρ i else none) (i<H1.length/\G'.N i) _;have hd:=hR'.dom i;rw[hσ']at hd;split;·rename_i hi;exact⟨λq=>(hd.1 q).imp (λr=>⟨hi,r⟩) id,λq=>⟨(hd.2.1 q).1,λr=>(hd.2.1 q).2 r.2⟩,λr=>hd.2.2 r.2⟩
  ·rename_i hi;exact⟨λ_=>.inr rfl,λ_=>⟨rfl,λr=>hi r.1⟩,λr=>absurd r.1 hi⟩
 ·rw[hσ,if_neg (by omega)]
 ·have hi':(if i<H1.length then G'.ρ i else none)=some c:=hi;have hj':(if j<H1.length then G'.ρ j else none)=some c:=hj;split at hi'
  ·split at hj'
   ·rename_i h1 h2;rw[hσ,hσ,if_pos h1,if_pos h2,<-hσ',<-hσ'];exact hR'.inj i j c hi' hj'
   ·cases hj'
  ·cases hi'
 ·have hi':(if i<H1.length then G'.ρ i else none)=some c:=hi;split at hi'
  ·rename_i hlt;rw[hσ,if_pos hlt]at hX;obtain⟨q1,q2⟩:=hR'.blk i c X hi' (by rw[hσ'];exact hX);refine⟨q1,?_⟩;have hget:(H1++[.row cs])[i]?=some H1[i]:=by rw[List.getElem?_append_left hlt,List.getElem?_eq_getElem hlt]
   have:=hb i _ hget;rw[this]at hX;cases hX;have hf:=hH1 _ (List.getElem_mem hlt);cases hY:H1[i]with|cells ds=>rw[hY]at q2 hf;obtain⟨vs',T',q3,q4⟩:=q2;exact⟨vs',T',q3,q4.imp λus=>VL.less hS _ us hf⟩|obj o=>rw[hY]at q2;exact q2|row ds=>rw[hY]at q2 hf;obtain⟨vs',T',q3,q4⟩:=q2;exact⟨vs',T',q3,q4.imp λus=>VL.data hS.L _ us hf⟩|dead=>rw[hY]at q2;exact q2
  ·cases hi'
 ·rcases hL with hL|⟨hρ,hlt⟩
  ·obtain⟨q1,q2⟩:=hR'.live c o hL;refine⟨q1,λi hi=>?_⟩;have hi':(if i<H1.length then G'.ρ i else none)=some c:=hi;split at hi';·exact q2 i hi'
   ·cases hi'
  ·obtain⟨_,us,hlen,hvl,hcell⟩:=real c hρ;refine⟨⟨us[o]'(by omega),?_⟩,λi hi=>?_⟩
   ·have:=hcell o (by omega);rwa[Nat.zero_add]at this
   ·have hi':(if i<H1.length then G'.ρ i else none)=some c:=hi;split at hi'
    ·rename_i hlt';have hi2:look s'.H i=some H1[i]:=hb i _ (by rw[List.getElem?_append_left hlt',List.getElem?_eq_getElem hlt']);rcases hR'.inj i H1.length c hi' hρ with this|this|this;·omega
     ·rw[hσ',hi2]at this;have h3:=List.all_eq_true.1 hnd _ (List.getElem_mem hlt');rw[Option.some.inj this]at h3;cases h3
     ·rw[hσ',hm]at this;cases this
    ·cases hi'
 ·obtain⟨c,f1,t,q1,q2|⟨q2,q3,q4,q5⟩⟩:=hR'.own k hk;·exact⟨c,f1,t,q1,.inl q2⟩
  ·refine⟨c,f1,t,q1,.inr ⟨q2,λi hi=>?_,λo h1 h2 hL=>?_,q5⟩⟩
   ·have hi':(if i<H1.length then G'.ρ i else none)=some c:=hi;split at hi';·exact q3 i hi'
    ·cases hi'
   ·rcases hL with hL|⟨hρ,_⟩;·exact q4 o h1 h2 hL
    ·exact q3 _ hρ
 ·have hlt:=(List.getElem?_eq_some_iff.1 hX).1;show look (zCA H1.length s'.H) i=some X;rw[gM,if_pos hlt];exact hb i X (by rw[List.getElem?_append_left hlt];exact hX)
theorem CT.freeze{P:Program}{f:FuncId}{H0 H1:List yC}{args cs:List AV}{res res':AV}{nst:Nat}(h:CT P f H0 args res (H1++[.row cs]) nst)(hle:H0.length<=H1.length)(hH1:∀X∈H1,X.fine (λi=>i<H1.length))(hcs:AV.DataL cs)(hr:res.fzOk H1.length)(hnd:H1.all yC.alive=true)(e:res.fz H1.length cs=res'):CT P f H0 args res' H1 nst:=by subst e;exact⟨h.tri.freeze hle hH1 hcs hr hnd,h.args,h.H0,AV.fz_fine hcs _ hr,hH1⟩
theorem zIJ{G0 G':Gh}{W W':World}{s':yM}{u:Value}(sz:Nat)(hB:v7 (0:Nat) G0)(hE:wF G0 W G' W')(hR':yG G' (yQ (wW 0) s') W')(hu:∃cap b o,(cap=0)/\(u=.slice (jO u) 0 0\/u=.slice (some ⟨b,o,none⟩) 0 cap)):∃u' G'' s'',Ending.returned u=.returned u'/\wF G0 W G'' W'/\yG G'' (yQ (wW 0) s'') W'/\V G'' W' (.sl [] 0 (.st 0 sz)) u'/\(∀i X,([]:List yC)[i]?=some X->look s''.H i=some X)/\∀k,k<1->s''.own.any (Nat.beq k)=true:=by
 let G'':Gh:={G' with ρ:=λ_=>none,τ:=λk=>if k=0 then some (0,1,0)else none,N:=λ_=>False};refine⟨u,G'',{s' with H:=[],own:=[0],ns:=1},rfl,⟨λi c hc=>?_,λk r hk=>?_,hE.L,hE.cell,hE.w0,hE.F,hE.newL,λi c m hc=>?_,λi e=>absurd e (hB.ρ i (Nat.zero_le _)).2⟩,⟨λi=>?_,⟨0,λi _=>?_⟩,λi j c hi=>?_,λi c X hi=>?_,λc o hL=>?_,λk hk=>?_,λk hk=>?_,λk k' _ _ _ _ _ hk hk'=>?_,hR'.below,hR'.base⟩,?_,λi X hX=>?_,λk hk=>?_⟩;·rw[(hB.ρ i (Nat.zero_le _)).1]at hc;cases hc
 ·rw[hB.τ k]at hk;cases hk
 ·rw[(hB.ρ i (Nat.zero_le _)).1]at hc;cases hc
 ·rw[xH];exact⟨λ_=>.inr rfl,λ_=>⟨rfl,id⟩,λe=>e.elim⟩
 ·rw[xH];rfl
 ·cases hi
 ·cases hi
 ·exact⟨(hR'.live c o hL).1,λi hi=>by cases hi⟩
 ·have hk1:1<=k:=hk;show(if k=0 then some (0,1,0)else none)=none;rw[if_neg (by omega)]
 ·rw[tI]at hk;have e:k=0:=by simpa using hk
  subst e;exact⟨0,1,0,rfl,.inl (by decide)⟩
 ·rw[tI]at hk hk';have e:k=0:=by simpa using hk
  have e':k'=0:=by simpa using hk'
  intros;omega
 ·obtain⟨cap,b,o,rfl,hu|rfl⟩:=hu
  ·simp only[V];exact⟨0,Nat.le_refl 0,.inl ⟨(by trivial),(by trivial),(by trivial),hu,_,rfl⟩⟩
  ·simp only[V];exact⟨0,Nat.le_refl 0,.inl ⟨(by trivial),(by trivial),(by trivial),(by first|rfl|trivial),_,rfl⟩⟩
 ·cases hX
 ·have:k=0:=by omega
  subst this;rfl
theorem vP.freezeZ{P:Program}{f:FuncId}{args cs:List AV}{n c sz:Nat}(h:vP P f [] args (.ms 0 0 n c sz) [.row cs] 0)(hn0:n=0):vP P f [] args (.sl [] 0 (.st 0 sz)) [] 1:=by
 intro G0 W cargs hB hR hv;refine(h G0 W cargs hB hR hv).mono ?_;rintro e W'⟨u,G',s',rfl,hE,hR',hu,hb,-⟩;have hm:look s'.H 0=some (.row cs):=hb 0 _ (by simp);have hm':(yQ (wW 0) s').H 0=some (.row cs):=by rw[xH];exact hm
 simp only[V]at hu;rcases hu with⟨b,cap,hρ,hn,o,rfl,hro⟩|⟨⟨e0,_⟩,hN,p,rfl⟩;rotate_left
 ·have hcs0:=yC.void_row (hR'.Nvoid hN hm');subst e0;try subst hcs0
  exact zIJ sz hB hE hR' ⟨0,0,0,rfl,.inl rfl⟩
 obtain⟨hF,vs,T,hh,us,rest,hus,hvl⟩:=hR'.blk 0 b _ hρ hm';have hlen:=VL.length _ _ hvl;rcases hro with⟨rfl,vs2,T2,hh2,hroom⟩|⟨_,h0⟩;rotate_left;·exact absurd h0 (Nat.lt_irrefl _)
 rw[hh]at hh2;cases hh2;let G'':Gh:={G' with ρ:=λ_=>none,τ:=λk=>if k=0 then some (b,0+0,0+cap*sz)else none,N:=λ_=>False};refine⟨_,G'',{s' with H:=[],own:=[0],ns:=1},rfl,⟨λi c hc=>?_,λk r hk=>?_,hE.L,hE.cell,hE.w0,hE.F,hE.newL,λi c m hc=>?_,λi e=>absurd e (hB.ρ i (Nat.zero_le _)).2⟩,⟨λi=>?_,⟨0,λi _=>?_⟩,λi j c hi=>?_,λi c X hi=>?_,λc o hL=>?_,λk hk=>?_,λk hk=>?_,λk k' _ _ _ _ _ hk hk'=>?_,hR'.below,hR'.base⟩,?_,λi X hX=>?_,λk hk=>?_⟩;·rw[(hB.ρ i (Nat.zero_le _)).1]at hc;cases hc
 ·rw[hB.τ k]at hk;cases hk
 ·rw[(hB.ρ i (Nat.zero_le _)).1]at hc;cases hc
 ·rw[xH];exact⟨λ_=>.inr rfl,λ_=>⟨rfl,id⟩,λe=>e.elim⟩
 ·rw[xH];rfl
 ·cases hi
 ·cases hi
 ·exact⟨(hR'.live c o hL).1,λi hi=>by cases hi⟩
 ·have hk1:1<=k:=hk;show(if k=0 then some (b,0+0,0+cap*sz)else none)=none;rw[if_neg (by omega)]
 ·rw[tI]at hk;have e:k=0:=by simpa using hk
  subst e;exact⟨b,0+0,0+cap*sz,rfl,.inr ⟨hF,λi hi=>(by cases hi),λo h1 h2 hL=>(hR'.live b o hL).2 0 hρ,vs,T,hh,hroom⟩⟩
 ·rw[tI]at hk hk';have e:k=0:=by simpa using hk
  have e':k'=0:=by simpa using hk'
  intros;omega
 ·simp only[V];subst hn0;exact⟨cap,Nat.zero_le _,.inr ⟨b,0,rfl,by simp only[VC],⟨_,rfl⟩,.inr ⟨by simp,hF,rfl⟩⟩⟩
 ·cases hX
 ·have:k=0:=by omega
  subst this;rfl
theorem CT.freezeZ{P:Program}{f:FuncId}{args cs:List AV}{n c sz:Nat}(h:CT P f [] args (.ms 0 0 n c sz) [.row cs] 0)(hn0:n=0):CT P f [] args (.sl [] 0 (.st 0 sz)) [] 1:=⟨h.tri.freezeZ hn0,h.args,h.H0,trivial,λ_ h=>nomatch h⟩
def gmk{α:Type}(B:Int)(d:α)(n:Int):Option (List α):=if 0<=n/\n*B<=140737488355328 then some (List.replicate n.toNat d)else none
def nS(n:Nat)(i:Int):Option Nat:=if 0<=i/\i<n then some i.toNat else none
def eW{α:Type}(l:List α)(k:Nat)(x:α):Option (List α):=if k<l.length then some (l.set k x)else none
def gfz{α:Type}(n:Nat)(l:List α):Option (List α):=if l.length=n then some l else none
theorem iM{α:Type}{n:Nat}{l r:List α}(h:gfz n l=some r):r=l/\n=r.length:=by
 unfold gfz at h;split at h;·rename_i e;cases h;exact⟨rfl,e.symm⟩
 ·cases h
theorem n9{f:Nat->AV}{s:Nat}(hs:0<s):∀n:Nat,(List.range (n*s)).map (λj=>f (j%s))=(List.replicate n ((List.range s).map f)).flatten|0=>by simp|n+1=>by rw[Nat.add_mul,Nat.one_mul,List.range_add,List.map_append,n9 hs n,List.replicate_succ',List.flatten_append];congr 1;simp only[List.map_map,List.flatten_cons,List.flatten_nil,List.append_nil];apply List.map_congr_left;intro j hj;have:j<s:=List.mem_range.1 hj;simp[Function.comp,Nat.add_comm (n*s) j,Nat.mod_eq_of_lt this]
theorem zCB{α:Type}{c:α->List AV}{d:α}:∀n:Nat,(List.replicate n (c d)).flatten=zI c (List.replicate n d)|0=>rfl|n+1=>by simp only[List.replicate_succ,List.flatten_cons,zI,List.flatMap_cons];rw[zCB n];rfl
theorem zLz{P:Program}{α:Type}{c:α->List AV}{sz:Nat}{t e:TypeId}{ie:TypeInfo}{z:Value}(ht:P.underlying t=some (.slice e))(hi:P.info? e=some ie)(hs:ie.size=sz)(hz:ie.zero=some z)(hzs:z.cells.size=sz)(h1:1<=sz){B:Nat}(hb:ie.bytes=B)(hB:1<=B){d:α}(hd:(List.range sz).map (λj=>(ofV 8 (z.cells.getD j undef)).frz)=c d){n:Int}{l:List α}(h:gmk (B:Int) d n=some l):Ob.ok P (.mk (rO P t (ai n) (ai n)) (zI c l) l.length):=by
 unfold gmk at h;split at h
 ·rename_i hc;cases h;show rO P t (ai n) (ai n)=some (zI c (List.replicate n.toNat d),(List.replicate n.toNat d).length);unfold rO;simp only[ht,hi,hz];have hb':(B:Int)>=1:=by omega
  have hn:n<=n*B:=by have:=Int.mul_le_mul_of_nonneg_left hb' hc.1;simpa using this
  rw[if_pos ⟨trivial,hc.1,by rw[hb];exact hc.2,by omega,by rw[hzs,hs],by rw[hs];exact h1⟩];simp only[List.length_replicate,Option.some.injEq,Prod.mk.injEq,and_true];rw[hs,hzs,n9 h1 (f:=λj=>(ofV 8 (z.cells.getD j undef)).frz),hd,zCB]
 ·cases h
theorem zAU{P:Program}{t e:TypeId}{ie:TypeInfo}(ht:P.underlying t=some (.slice e))(hi:P.info? e=some ie){sz:Nat}(hs:ie.size=sz){b n k c z:Nat}{i:Int}(h:nS n i=some k):xD P t (.ms b 0 n c z) (ai i)=some (.mp b (k*sz)):=by
 unfold nS at h;split at h
 ·rename_i hc;cases h;unfold xD;simp only[ht,hi];rw[if_pos hc,hs,Nat.zero_add]
 ·cases h
theorem zOc{α:Type}{c:α->List AV}{sz:Nat}(hc:wV c sz){l:List α}{k:Nat}{x:α}(h:zM l (k:Int)=some x):(zI c l).drop (k*sz)=c x++zI c (l.drop (k+1)):=by obtain⟨_,_,h2⟩:=lC h;exact zAO hc.len (by simpa using h2)
theorem zCC{α:Type}{c:α->List AV}{sz:Nat}(hc:∀x,(c x).length=sz):∀(l:List α)(k:Nat)(x:α),k<l.length->splice (zI c l) (k*sz) (c x)=zI c (l.set k x)
 |[],k,x,h=>by simp at h|y::l,0,x,h=>by simp only[splice,Nat.zero_mul,List.take_zero,List.nil_append,Nat.zero_add,zI,List.flatMap_cons,List.set_cons_zero];rw[List.drop_left' (by rw[hc,hc])]|y::l,k+1,x,h=>by
  have ih:=zCC hc l k x (by simpa using h);simp only[splice,zI]at ih;simp only[splice,zI,List.flatMap_cons,List.set_cons_succ];rw[<-ih];have e:(k+1)*sz=sz+k*sz:=by rw[Nat.add_mul,Nat.one_mul,Nat.add_comm]
  rw[e,List.take_append,List.take_of_length_le (by rw[hc];omega),hc,Nat.add_sub_cancel_left,show sz+k*sz+(c x).length=sz+(k*sz+(c x).length)by omega,<-List.drop_drop,List.drop_left' (hc y)];simp only[List.append_assoc]
theorem zGS{P:Program}{α:Type}{c:α->List AV}{sz:Nat}(hc:wV c sz){l l2:List α}{k:Nat}{x:α}(h:eW l k x=some l2):Ob.ok P (.wt (zI c l) (k*sz) (.agg (c x)) sz (zI c l2)):=by
 unfold eW at h;split at h;·rename_i hk;cases h;refine⟨hc.one x,hc.len x,?_,zCC hc.len l k x hk⟩;rw[vM hc.len];have:=Nat.mul_le_mul_right sz (show k+1<=l.length from hk);rw[Nat.add_mul,Nat.one_mul]at this;exact this
 ·cases h
theorem zLy{P:Program}{α:Type}{c:α->List AV}{a:α->AV}(hc:wV c 1)(ha:∀x,c x=[a x])(hs:∀x,(a x).sound=true/\tV (a x)=[a x]){l l2:List α}{k:Nat}{x:α}(h:eW l k x=some l2):Ob.ok P (.wt (zI c l) (k*1) (a x) 1 (zI c l2)):=by obtain⟨_,h2,h3,h4⟩:=zGS (P:=P) hc h;refine⟨(hs x).1,by rw[(hs x).2];rfl,h3,?_⟩;rw[(hs x).2];have h4':splice (zI c l) (k*1) (c x)=zI c l2:=h4;rw[ha]at h4';exact h4'
theorem I8{P:Program}{α:Type}{c:α->List AV}{sz:Nat}(hc:wV c sz){t e:TypeId}{ie:TypeInfo}(ht:P.underlying t=some (.slice e))(hi:P.info? e=some ie)(hs:ie.size=sz){l r:List α}{b:Int}{k k':IntKind}{o:qI}(h:tX l 0 b=some r):vK P t (.sl (zI c l) l.length o) none (some (.val (.int k b))) (some (.val (.int k' b)))=some (.sl (zI c r) r.length .full):=by
 obtain⟨_,h1,h2,rfl⟩:=Q8 h;subst hs;have key:vK P t (.sl (zI c l) l.length o) none (some (.val (.int k b))) (some (.val (.int k' b)))=some (.sl (zI c (l.take b.toNat)) (l.take b.toNat).length (o.cut 0 b.toNat (Nat.beq b.toNat l.length) (Nat.beq b.toNat b.toNat))):=by
  unfold vK;simp only[ht,hi,amx,O9,xY];rw[if_pos ⟨h1,h2⟩];simp only[Option.map_some];have hbb:(0<=b/\b<=(b.toNat:Nat)):=⟨h1,by omega⟩;rw[if_pos hbb];simp only[Option.isSome_some,Option.isNone_some,Bool.false_eq_true,and_false,if_false];rw[if_pos (by rw[vM hc.len];simp)];simp only[Nat.sub_zero,Nat.zero_mul,List.drop_zero,Bool.true_and];rw[gK hc.len];have hl:(l.take b.toNat).length=b.toNat:=by simp;omega
  rw[hl]
 rw[key];simp only[qI.cut,Nat.beq_refl,if_true,Int.sub_zero,Int.toNat_zero,List.drop_zero]
def zIK(n:Nat)(a b:Int):Option (Nat×Nat):=if 0<=a/\a<=b/\b<=n then some (a.toNat,(b-a).toNat)else none
theorem zIL{n:Nat}{a b:Int}{r:Nat×Nat}(h:zIK n a b=some r):0<=a/\a<=b/\b<=n/\r.1=a.toNat/\r.2=b.toNat-a.toNat:=by
 unfold zIK at h;split at h
 ·rename_i q;cases h;exact⟨q.1,q.2.1,q.2.2,rfl,by show(b-a).toNat=_;omega⟩
 ·cases h
theorem zLx{P:Program}{t e:TypeId}{ie:TypeInfo}(ht:P.underlying t=some (.slice e))(hi:P.info? e=some ie){sz:Nat}(hs:ie.size=sz)(h1:1<=sz){b off n c:Nat}{y:Int}{r:Nat×Nat}(h:zIK c 0 y=some r):vK P t (.ms b off n c sz) none (some (ai y)) none=some (.ms b off r.2 c sz):=by
 obtain⟨q1,q2,q3,q4,q5⟩:=zIL h;subst hs;have h2:xY c c (some (ai y))=some y.toNat:=by show(if 0<=y/\y<=(c:Int)then some y.toNat else none)=_;rw[if_pos ⟨by omega,q3⟩]
 unfold vK;simp only[ht,hi,amx,show msb n c (some (ai y)) none=c from rfl,h2];rw[if_neg (by simp)];simp only[xY];rw[if_pos ⟨trivial,h1⟩,q5];simp
theorem ldE{P:Program}{α:Type}{c:α->List AV}{sz:Nat}(hc:wV c sz){l:List α}{k:Nat}{x:α}(h:zM l (k:Int)=some x)(q:Bool×Nat){val:AV}(e:pF q (c x++zI c (l.drop (k+1)))=some val):Ob.ok P (.ld (pF q ((zI c l).drop (k*sz))) val):=by show pF q _=some val;rw[zOc hc h,e]
theorem wtE{P:Program}{α:Type}{c:α->List AV}{sz:Nat}(hc:wV c sz){l l2:List α}{k:Nat}{x:α}{cs:List AV}(he:c x=cs)(h:eW l k x=some l2):Ob.ok P (.wt (zI c l) (k*sz) (.agg cs) sz (zI c l2)):=he▸zGS hc h
theorem m3{P:Program}{α:Type}{c:α->List AV}{sz:Nat}(hc:wV c sz){t e:TypeId}{ie:TypeInfo}{z:Value}(ht:P.underlying t=some (.slice e))(hi:P.info? e=some ie)(hs:ie.size=sz)(hz:ie.zero=some z)(hzs:z.cells.size=sz)(h1:1<=sz){B:Nat}(hb:ie.bytes=B)(hB:1<=B){l m r:List α}(h:yW B l m=some r)(hm:m.length≠0)(z1:Option Nat)(hz1:∀q,z1=some q->q=sz)(src:Option (Nat×Nat×Nat))(hsrc:∀q,src=some q->q.2.2=sz):eV P t t z1 (zI c l) l.length src (zI c m) m.length=some (zI c r,r.length):=by obtain⟨h2,rfl⟩:=sQ h;subst hs;subst hb;have h3:(l.length+m.length)*1<=(l.length+m.length)*ie.bytes:=Nat.mul_le_mul_left _ hB;unfold eV;simp only[ht,hi,hz];rw[if_pos ⟨trivial,vM hc.len l,vM hc.len m,h1,hzs,h2,by omega,bP hc.one m,hm,hz1,hsrc⟩,bQ,List.length_append]
theorem zCD{P:Program}{α:Type}{c:α->List AV}{sz:Nat}(hc:wV c sz){t e:TypeId}{ie:TypeInfo}{z:Value}(ht:P.underlying t=some (.slice e))(hi:P.info? e=some ie)(hs:ie.size=sz)(hz:ie.zero=some z)(hzs:z.cells.size=sz)(h1:1<=sz){B:Nat}(hb:ie.bytes=B)(hB:1<=B){m r:List α}(h:yW B ([]:List α) m=some r)(hm:m.length≠0):Ob.ok P (.mk (eV P t t none [] 0 none (zI c m) m.length) (zI c r) r.length):=m3 hc ht hi hs hz hzs h1 hb hB h hm none (λ_ h=>nomatch h) none (λ_ h=>nomatch h)
theorem zLw{P:Program}{α:Type}{c:α->List AV}{sz:Nat}(hc:wV c sz){t e:TypeId}{ie:TypeInfo}{z:Value}(ht:P.underlying t=some (.slice e))(hi:P.info? e=some ie)(hs:ie.size=sz)(hz:ie.zero=some z)(hzs:z.cells.size=sz)(h1:1<=sz){B:Nat}(hb:ie.bytes=B)(hB:1<=B){l m r:List α}(h:yW B l m=some r)(hm:m.length≠0):Ob.ok P (.mk (eV P t t (some sz) (zI c l) l.length none (zI c m) m.length) (zI c r) r.length):=m3 hc ht hi hs hz hzs h1 hb hB h hm _ (λ_ h=>(Option.some.inj h).symm) none (λ_ h=>nomatch h)
theorem zGT{P:Program}{t e:TypeId}{ie:TypeInfo}(ht:P.underlying t=some (.slice e))(hi:P.info? e=some ie){n:Nat}(h:n=0):Ob.ok P (.same t t n):=⟨rfl,h,e,ie,ht,hi⟩
abbrev zB{α:Type}(c:α->List AV)(l:List α)(o:qI):AV:=.sl (zI c l) l.length o
abbrev pS(n:Nat):List pR:=List.replicate n .no
structure OL(P:Program)(os:List pR)(ob:List Ob):Prop where ok:yO P ob
theorem yO.rev{P:Program}:∀(a b:List Ob),yO P a->yO P b->yO P (a.reverseAux b)|[],_,_,k=>k|x::a,b,h,k=>yO.rev a (x::b) h.2 ⟨h.1,k⟩
section
variable{P:Program}{os:List pR}{ob:List Ob}
theorem OL.nil:OL P [] []:=⟨trivial⟩
theorem oB{b b':Bool}(n:Nat)(h:b=b')(k:OL P os ob):OL P (.bit b'::(pS n++os)) (.bit b b'::ob):=⟨⟨h,k.ok⟩⟩
theorem oA{x:Option AV}{a:AV}(n:Nat)(h:x=some a)(k:OL P os ob):OL P (.av a::(pS n++os)) (.av x a::ob):=⟨⟨h,k.ok⟩⟩
theorem oC{f:FuncId}{H0:List yC}{args:List AV}{res:AV}{H1:List yC}{nst:Nat}(n:Nat)(ι:List Nat)(h:CT P f H0 args res H1 nst)(k:OL P os ob):OL P (.call ι H1 nst res none::(pS n++os)) (.call f H0 args res H1 nst::ob):=⟨⟨h,k.ok⟩⟩
theorem oK{b b':Bool}{f:FuncId}{H0:List yC}{args:List AV}{res:AV}{H1:List yC}{nst:Nat}(n:Nat)(ι:List Nat)(hb:b=b')(h:CT P f H0 args res H1 nst)(k:OL P os ob):OL P (.call ι H1 nst res (some b')::(pS n++os)) (.call f H0 args res H1 nst::.bit b b'::ob):=⟨⟨h,hb,k.ok⟩⟩
theorem oF{x:Option AV}{a:AV}(n:Nat)(h:∃a0,x=some a0/\a0.frz=a)(k:OL P os ob):OL P (.fz a::(pS n++os)) (.fz x a::ob):=⟨⟨h,k.ok⟩⟩
theorem oP{t t2:TypeId}{es es2 es':List AV}{n1 n2 n' sz:Nat}{e:Bool}(n:Nat)(h:Ob.ok P (.app t t2 es es2 es' n1 n2 n' sz e))(k:OL P os ob):OL P (.app es' n' sz e::(pS n++os)) (.app t t2 es es2 es' n1 n2 n' sz e::ob):=⟨⟨h,k.ok⟩⟩
theorem oS{cs es:List AV}{l m:Nat}(n:Nat)(h:Ob.ok P (.cells cs es l m))(k:OL P os ob):OL P (.sl es m::(pS n++os)) (.cells cs es l m::ob):=⟨⟨h,k.ok⟩⟩
theorem oL{t:TypeId}{X:yC}{key:AV}{o:Bool}{a:AV}(n:Nat)(h:Ob.ok P (.lk t X key o a))(k:OL P os ob):OL P (.lk a::(pS n++os)) (.lk t X key o a::ob):=⟨⟨h,k.ok⟩⟩
theorem oU{t:TypeId}{X Y:yC}{key v:AV}(n:Nat)(h:Ob.ok P (.mu t X key v Y))(k:OL P os ob):OL P (.mu Y::(pS n++os)) (.mu t X key v Y::ob):=⟨⟨h,k.ok⟩⟩
theorem oM{x:Option (List AV×Nat)}{cs:List AV}{m:Nat}(n:Nat)(h:Ob.ok P (.mk x cs m))(k:OL P os ob):OL P (.mk cs m::(pS n++os)) (.mk x cs m::ob):=⟨⟨h,k.ok⟩⟩
theorem oMc{x:Option (List AV×Nat)}{cs:List AV}{m:Nat}(n:Nat)(h:Ob.ok P (.mk x cs m))(k:OL P os ob):OL P (.mkc cs m::(pS n++os)) (.mk x cs m::ob):=⟨⟨h,k.ok⟩⟩
theorem oG{x:Option AV}{a:AV}(n:Nat)(h:Ob.ok P (.ld x a))(k:OL P os ob):OL P (.ld a::(pS n++os)) (.ld x a::ob):=⟨⟨h,k.ok⟩⟩
theorem oW{cs:List AV}{off:Nat}{v:AV}{sz:Nat}{cs':List AV}(n:Nat)(h:Ob.ok P (.wt cs off v sz cs'))(k:OL P os ob):OL P (.wt cs'::(pS n++os)) (.wt cs off v sz cs'::ob):=⟨⟨h,k.ok⟩⟩
theorem oQ{t t2:TypeId}{m:Nat}(n:Nat)(h:Ob.ok P (.same t t2 m))(k:OL P os ob):OL P (.same::(pS n++os)) (.same t t2 m::ob):=⟨⟨h,k.ok⟩⟩
theorem oD{es:List AV}(h:AV.DataL es)(k:OL P os ob):OL P os (.data es::ob):=⟨⟨h,k.ok⟩⟩
end
theorem spl{α:Type}{b:Bool}{x y:Option α}{r:α}(h:(if b=true then x else y)=some r):(b=true/\x=some r)\/(b=false/\y=some r):=by
 cases b;·exact .inr ⟨rfl,by simpa using h⟩
 ·exact .inl ⟨rfl,by simpa using h⟩
theorem spT{α:Type}{b:Bool}{x:Option α}{r:α}(h:(if b=true then x else none)=some r):b=true/\x=some r:=by
 rcases spl h with h|⟨_,h⟩;·exact h
 ·cases h
theorem nn{α:Type}{r:α}{p:Prop}(h:(none:Option α)=some r):p:=nomatch h
theorem zSg{α:Type}{b:Bool}{x y:α}(h:b=true):(if b=true then x else y)=x:=if_pos h
theorem zOb{α:Type}{b:Bool}{x y:α}(h:b=false):(if b=true then x else y)=y:=by subst h;rfl
theorem sj{α:Type}{x y:α}(h:some x=some y):x=y:=Option.some.inj h
def sp(j:Nat->Value):Nat->Nat->List (Nat×AV)->List AV|0,_,_=>[]|n+1,i,l=>match l with|[]=>.val (j i)::sp j n (i+1) []|(m,a)::l'=>bif Nat.beq m i then a::sp j n (i+1) l' else .val (j i)::sp j n (i+1) l
section
variable{P:Program}{pr:FuncId->List AV->yM->Option LA}(hp:uQ P pr)(hm:P.follows .mixedOrders=true){na:Nb}{fn:Func}{f:FuncId}
include hp hm
theorem OL.toHead{H0 H1:List yC}{args:List AV}{res:AV}{nst:Nat}(q:P.funcs[f]?=some fn/\fn.body.isNone=false)(m:Nat)(rs:List (Option Nat×Nat×Nat))(keep ks live:List Nat){os:List pR}{ob:List Ob}(k:OL P os ob){c:Code}{fs':List Fr}{E:(Nat->Value)->List AV}{S:yM}(hk:∀j,Dl P H0.length c (E j) S (xV P H0.length (kN P H0.length fn res H1 nst) fs'))(h:∀j,bN P pr H0.length 3000 (.run (tT fn)) [] (args++List.replicate (fn.ntmps-args.length) (.val undef)) (I1 H0) ((pS m++os).reverseAux []) rs keep ks live j=some (c,fs',E j,S,ob.reverseAux [])):vP P f H0 args res H1 nst:=vP.toHead hp hm q.1 q.2 3000 _ rs keep ks live h (yO.rev _ _ k.ok trivial) hk
theorem OL.toFin{H0 H1:List yC}{args:List AV}{res:AV}{nst:Nat}(q:P.funcs[f]?=some fn/\fn.body.isNone=false)(m:Nat)(rs:List (Option Nat×Nat×Nat))(keep ks:List Nat)(own:Bool){os:List pR}{ob:List Ob}(k:OL P os ob)(h:L3 P pr H0.length fn 3000 (.run (tT fn)) [] (args++List.replicate (fn.ntmps-args.length) (.val undef)) (I1 H0) ((pS m++os).reverseAux []) rs keep ks own=some (res,H1,ob.reverseAux []))(hn:nst<=ks.length):vP P f H0 args res H1 nst:=vP.toFin hp hm q.1 q.2 3000 _ rs keep ks own h (yO.rev _ _ k.ok trivial) hn
theorem OL.lHead{Q:AX->List AV->yM->Prop}{c c':Code}{fs fs':List Fr}{env:List AV}{s S:yM}(m:Nat)(rs:List (Option Nat×Nat×Nat))(keep ks live:List Nat){os:List pR}{ob:List Ob}(k:OL P os ob){E:(Nat->Value)->List AV}(hk:∀j,Dl P na c' (E j) S (xV P na Q fs'))(h:∀j,bN P pr na.n 3000 (.run c) (.loop c::fs) env s ((pS m++os).reverseAux []) rs keep ks live j=some (c',fs',E j,S,ob.reverseAux [])):Dl P na c env s (xV P na Q fs):=Dl.toHead hp hm 3000 _ rs keep ks live h (yO.rev _ _ k.ok trivial) hk
theorem OL.lFin{c:Code}{fs:List Fr}{env:List AV}{s:yM}{res:AV}{H1:List yC}{nst:Nat}(m:Nat)(rs:List (Option Nat×Nat×Nat))(keep ks:List Nat)(own:Bool){os:List pR}{ob:List Ob}(k:OL P os ob)(h:L3 P pr na.n fn 3000 (.run c) (.loop c::fs) env s ((pS m++os).reverseAux []) rs keep ks own=some (res,H1,ob.reverseAux []))(hn:nst<=ks.length):Dl P na c env s (xV P na (kN P na fn res H1 nst) fs):=Dl.toFin hp hm 3000 _ rs keep ks own h (yO.rev _ _ k.ok trivial) hn
end
def gbs(s:ByteArray):List U8:=s.data.toList.map λb=>(b.toNat:Int)
theorem kS(s:ByteArray):(gbs s).length=s.size:=by unfold gbs;rw[List.length_map,Array.length_toList];rfl
theorem zEZ(s:ByteArray):vD s=zI cC (gbs s):=by unfold vD gbs;generalize s.data.toList=l;induction l with|nil=>rfl|cons b l ih=>unfold zI at ih⊢;rw[List.map_cons,List.map_cons,List.flatMap_cons,ih];rfl
def zOa(a b:Int):Option Int:=if b<0 then none else some (a.fdiv (2^(min b.toNat IntKind.i64.bits)))
theorem zSf{P:Program}{t:TypeId}{a b r:Int}(h:zOa a b=some r):dQ P .shr t (ai a) (ai b)=some (ai r):=by
 unfold zOa at h;split at h;·cases h
 ·rename_i hc;cases h;unfold dQ bF zOu;simp only[ai,if_neg hc,if_true]
def zLv(a b:ByteArray):Option ByteArray:=if a.size+b.size<=4294967296 then some (a++b)else none
theorem zSe{P:Program}{t:TypeId}{a b r:ByteArray}(h:zLv a b=some r):dQ P .add t (at' a) (at' b)=some (at' r):=by
 unfold zLv at h;split at h
 ·rename_i hc;cases h;unfold dQ bF zOu;simp only[at',if_pos hc]
 ·cases h
section
variable{P:Program}{t t2 e:TypeId}{ie:TypeInfo}{z:Value}
theorem zCE(ht:P.underlying t=some (.slice e))(hu:P.underlying t2=some .string)(hi:P.info? e=some ie)(hs:ie.size=1)(hz:ie.zero=some z)(hzs:z.cells.size=1)(hb:ie.bytes=1){l r:List U8}{bs:ByteArray}(h:yW 1 l (gbs bs)=some r){o:qI}{s:yM}{ev:Operand->AV}:rL P t t2 ev (.sl (zI cC l) l.length o) bs s=bif Nat.beq bs.size 0 then some {ev:=ev,v:=.sl (zI cC l) l.length o}else match o with|.full=>some {ev:=ev,ns:=s.ns,new:=1,v:=.sl (zI cC r) r.length (.st s.ns 1)}|.nl=>some {ev:=ev,ns:=s.ns,new:=1,v:=.sl (zI cC r) r.length (.st s.ns 1)}|.st k sz'=>bif s.own.any (Nat.beq k)&&Nat.beq sz' 1 then some {ev:=ev,use:=[k],ns:=s.ns,new:=1,v:=.sl (zI cC r) r.length (.st s.ns 1)}else none|_=>none:=by
 obtain⟨h2,rfl⟩:=sQ h;rw[kS]at h2;unfold rL;simp only[ht,hu,hi,hz,hs,hb];have hcond:(Nat.beq (zI cC l).length (l.length*1)&&Nat.beq 1 1&&Nat.beq z.cells.size 1&&Nat.ble ((l.length+bs.size)*1) 140737488355328&&Nat.ble (l.length+bs.size) 4611686018427387904)=true:=by simp only[Bool.and_eq_true];exact⟨⟨⟨⟨by rw[vM Q7.len];simp,rfl⟩,by rw[hzs];rfl⟩,by simpa using h2⟩,by simp;omega⟩
 rw[hcond];simp only[cond_true,bQ,List.length_append,kS,zEZ];cases o<;>rfl
theorem zLu(ht:P.underlying t=some (.slice e))(hu:P.underlying t2=some .string)(hi:P.info? e=some ie)(hs:ie.size=1)(hz:ie.zero=some z)(hzs:z.cells.size=1)(hb:ie.bytes=1){l r:List U8}{bs:ByteArray}(h:yW 1 l (gbs bs)=some r)(hm:bs.size≠0):Ob.ok P (.aps t t2 (zI cC l) bs (zI cC r) l.length r.length 1 false):=by intro ev s o;rw[zCE ht hu hi hs hz hzs hb h];cases hn:Nat.beq bs.size 0 with|true=>exact absurd (Nat.eq_of_beq_eq_true hn) hm|false=>cases o<;>rfl
theorem zLt(ht:P.underlying t=some (.slice e))(hu:P.underlying t2=some .string)(hi:P.info? e=some ie)(hs:ie.size=1)(hz:ie.zero=some z)(hzs:z.cells.size=1)(hb:ie.bytes=1){l r:List U8}{bs:ByteArray}(h:yW 1 l (gbs bs)=some r)(hm:bs.size=0):Ob.ok P (.aps t t2 (zI cC l) bs (zI cC r) l.length r.length 1 true):=by intro ev s o;rw[zCE ht hu hi hs hz hzs hb h];obtain⟨_,rfl⟩:=sQ h;have:gbs bs=[]:=List.length_eq_zero_iff.1 (by rw[kS,hm]);rw[hm,this,List.append_nil];rfl
end
section
variable{P:Program}{os:List pR}{ob:List Ob}
theorem zOA{s:ByteArray}{p:Nat}(h:p<s.size):Ob.ok P (.nx (.obj (.stringIter s p)) (.tup [ab true,ai (p:Int),.val (.int .i32 ((Utf8.decode s p).1:Nat))]) (some (.obj (.stringIter s (p+(Utf8.decode s p).2))))):=by intro ev i st hl;unfold H8;have hb:Nat.blt p s.size=true:=Nat.ble_eq_true_of_le h;simp only[hl,hb,cond_true];rfl
theorem zOB{s:ByteArray}{p:Nat}(h:¬p<s.size):Ob.ok P (.nx (.obj (.stringIter s p)) (.tup [ab false]) none):=by
 intro ev i st hl;unfold H8;have hb:Nat.blt p s.size=false:=by cases hc:Nat.blt p s.size with|false=>rfl|true=>exact absurd (Nat.le_of_ble_eq_true hc) h
 simp only[hl,hb,cond_false];rfl
theorem oMz{x:Option (List AV×Nat)}{cs:List AV}{m:Nat}(n:Nat)(h:Ob.ok P (.mk x cs m))(k:OL P os ob):OL P (.mz cs m::(pS n++os)) (.mk x cs m::ob):=⟨⟨h,k.ok⟩⟩
theorem oCx{f:FuncId}{H0:List yC}{args:List AV}{res:AV}{H1:List yC}{nst:Nat}(n:Nat)(ι:List Nat)(h:CT P f H0 args res H1 nst)(k:OL P os ob):OL P (.callx ι H1 nst res none::(pS n++os)) (.call f H0 args res H1 nst::ob):=⟨⟨h,k.ok⟩⟩
theorem u6(n:Nat)(k:OL P os ob):OL P (.cl::(pS n++os)) ob:=⟨k.ok⟩
theorem oCv{x:Option ByteArray}{bs:ByteArray}(n:Nat)(h:Ob.ok P (.str x bs))(k:OL P os ob):OL P (.cv bs::(pS n++os)) (.str x bs::ob):=⟨⟨h,k.ok⟩⟩
theorem S0:∀l:List U8,eZ (zI cC l)=some l|[]=>rfl|x::l=>by show eZ (.val (.int .u8 x)::zI cC l)=_;rw[eZ,S0 l];rfl
theorem zLs{t d e:TypeId}(hs:P.underlying t=some (.slice e))(hd:P.underlying d=some .string)(he:P.underlying e=some (.int .u8))(l:List U8):Ob.ok P (.str (nV P t d (zI cC l) l.length) (rG l)):=by
 show nV P t d (zI cC l) l.length=some (rG l);have h1:(zI cC l).length=l.length:=by rw[vM Q7.len,Nat.mul_one]
 unfold nV;simp only[hs,hd,he];rw[List.take_of_length_le (by omega),S0];simp
def gtx(n:Nat)(l:List U8):Option ByteArray:=if l.length=n then some (rG l)else none
theorem zLr{t d e:TypeId}(hs:P.underlying t=some (.slice e))(hd:P.underlying d=some .string)(he:P.underlying e=some (.int .u8)){l:List U8}{n:Nat}{bs:ByteArray}(h:gtx n l=some bs):Ob.ok P (.str (nV P t d (zI cC l) n) bs):=by
 unfold gtx at h;split at h
 ·rename_i hn;subst hn;cases h;exact zLs hs hd he l
 ·cases h
theorem zUT{t t2:TypeId}{k:IntKind}(h2:P.underlying t2=some (.int k)){n:Int}(hp:n>0){cs:List AV}{m:Nat}(h:Ob.ok P (.mk (rO P t (ai n) (ai n)) cs m)):Ob.ok P (.mk (P9 P t t2 (ai n)) cs m):=by show P9 P t t2 (ai n)=some (cs,m);unfold P9;rw[h2];simp only;rw[if_pos (by omega)];exact h
theorem oX{X:yC}{v:AV}{Y:Option yC}(n:Nat)(h:Ob.ok P (.nx X v Y))(k:OL P os ob):OL P (.nx v Y::(pS n++os)) (.nx X v Y::ob):=⟨⟨h,k.ok⟩⟩
theorem oPs{t t2:TypeId}{es es':List AV}{bs:ByteArray}{n1 n' sz:Nat}{e:Bool}(n:Nat)(h:Ob.ok P (.aps t t2 es bs es' n1 n' sz e))(k:OL P os ob):OL P (.app es' n' sz e::(pS n++os)) (.aps t t2 es bs es' n1 n' sz e::ob):=⟨⟨h,k.ok⟩⟩
end
abbrev zUU:=yE
def entZ(e:yE):List AV:=[ai e.kind,at' e.name,ai e.type.k,ai e.type.n,.sl (zI zA e.type.sub) e.type.sub.length .no,ai e.body.k,ai e.body.n,.sl (zI zA e.body.sub) e.body.sub.length .no,ai e.fam,ai e.place,ai e.pars,ai e.inds,ai e.level,.sl (zI zQ e.cons) e.cons.length .z,.sl (zI zQ e.fields) e.fields.length .z]
theorem zGV:wV entZ 15:=⟨λ_=>rfl,λx=>⟨trivial,trivial,trivial,trivial,⟨trivial,dT _⟩,trivial,trivial,⟨trivial,dT _⟩,trivial,trivial,trivial,trivial,trivial,⟨trivial,dI _⟩,⟨trivial,dI _⟩,trivial⟩,λ_=>rfl⟩
theorem CT.wk{P:Program}{f:FuncId}{H0:List yC}{args:List AV}{res res':AV}{H1:List yC}{nst:Nat}(h:CT P f H0 args res H1 nst)(k:Wk res res')(hf:res'.fine (λi=>i<H1.length)):CT P f H0 args res' H1 nst:=by refine⟨λG0 W cargs hB hR hv=>(h.tri G0 W cargs hB hR hv).mono ?_,h.args,h.H0,hf,h.H1⟩;rintro e W'⟨u,G',s',h1,h2,h3,h4,h5⟩;exact⟨u,G',s',h1,h2,h3,k _ _ _ h4,h5⟩
theorem CT.zfull{P:Program}{f:FuncId}{args:List AV}(h:CT P f [] args (.sl [] 0 .full) [] 0):CT P f [] args (.sl [] 0 .z) [] 0:=h.wk (by
 intro G w u h;simp only[V,pE]at h⊢;obtain⟨cap,hc,⟨h1,h2,h3,h4,h5⟩|⟨b,off,h1,h2,h3⟩⟩:=h;·exact⟨cap,hc,.inl ⟨h1,h2,h3,h4,trivial⟩⟩
 ·exact⟨cap,hc,.inr ⟨b,off,h1,h2,λ_=>h3⟩⟩) trivial
theorem CT.zno{P:Program}{f:FuncId}{args es:List AV}{n:Nat}(hn:n≠0)(hd:AV.DataL es)(h:CT P f [] args (.sl es n .no) [] 0):CT P f [] args (.sl es n .z) [] 0:=h.wk (by
 intro G w u h;simp only[V,pE]at h⊢;obtain⟨cap,hc,⟨h1,h2,h3,h4,h5⟩|⟨b,off,h1,h2,h3⟩⟩:=h;·exact(hn h2).elim
 ·exact⟨cap,hc,.inr ⟨b,off,h1,h2,λe=>(hn e).elim⟩⟩) hd
theorem V.unown{G:Gh}{w:World}{es:List AV}{n:Nat}{o:qI}{u:Value}(h:V G w (.sl es n o) u):V G w (.sl es n .no) u:=V.frz _ _ h
theorem VC.entZ{G:Gh}{w:World}:∀(l:List yE)(b off:Nat),VC G w (zI Ab.entZ l) b off->VC G w (zI zO l) b off|[],_,_,_=>by simp[zI,VC]|e::l,b,off,h=>by have h':VC G w (Ab.entZ e++zI Ab.entZ l) b off:=h;show VC G w (zO e++zI zO l) b off;simp only[Ab.entZ,zO,List.cons_append,List.nil_append,VC]at h'⊢;obtain⟨l0,c0,l1,c1,l2,c2,l3,c3,l4,c4,l5,c5,l6,c6,l7,c7,l8,c8,l9,c9,l10,c10,l11,c11,l12,c12,l13,⟨v13,e13,h13⟩,l14,⟨v14,e14,h14⟩,hr⟩:=h';exact⟨l0,c0,l1,c1,l2,c2,l3,c3,l4,c4,l5,c5,l6,c6,l7,c7,l8,c8,l9,c9,l10,c10,l11,c11,l12,c12,l13,⟨v13,e13,V.unown h13⟩,l14,⟨v14,e14,V.unown h14⟩,VC.entZ l _ _ hr⟩
theorem wkr(a:AV):Wk a a:=λ_ _ _ h=>h
theorem wkE(l:List yE)(o:qI):Wk (.sl (zI entZ l) l.length o) (.sl (zI zO l) l.length .no):=by
 intro G w u h;simp only[V]at h⊢;obtain⟨cap,hc,hh⟩:=h;refine⟨cap,hc,?_⟩;rcases hh with⟨h1,h2,h3,h4,h5⟩|⟨b,off,hu,hcells,ho⟩
 ·have:l=[]:=List.length_eq_zero_iff.1 h2;subst this;exact .inl ⟨rfl,rfl,h3,h4,trivial⟩
 ·exact .inr ⟨b,off,hu,VC.entZ l b off hcells,trivial⟩
section
variable{P:Program}{os:List pR}{ob:List Ob}
theorem oWk{a0 a:AV}(n:Nat)(h:Wk a0 a)(k:OL P os ob):OL P (.wk a::(pS n++os)) (.wk a0 a::ob):=⟨⟨h,k.ok⟩⟩
end
abbrev wN:Nat->Prop:=λ_=>True
mutual def AV.ptB(keep:List Nat):AV->Bool|.val _=>true|.agg cs=>AV.ptBL keep cs|.tup cs=>AV.ptBL keep cs|.sl _ _ _=>true|.ip _=>true|.mp i _=>tW keep i|.ms i _ _ _ _=>tW keep i|.obj i=>tW keep i|.clo _ fs cs=>AV.ptBL keep fs&&AV.ptBL keep cs def AV.ptBL(keep:List Nat):List AV->Bool|[]=>true|a::l=>AV.ptB keep a&&AV.ptBL keep l end
mutual theorem AV.pt_fine{keep:List Nat}:∀a:AV,a.ptB keep=true->a.fine wN->a.fine (λi=>i∈keep)|.val _,_,_=>trivial|.agg cs,h,k=>AV.pt_fineL cs h k|.tup cs,h,k=>AV.pt_fineL cs h k|.sl _ _ _,_,k=>k|.ip _,_,k=>k|.mp _ _,h,_=>wR.1 h|.ms _ _ _ _ _,h,_=>wR.1 h|.obj _,h,_=>wR.1 h|.clo _ fs cs,h,k=>by simp only[AV.ptB,Bool.and_eq_true]at h;exact⟨AV.pt_fineL fs h.1 k.1,AV.pt_fineL cs h.2 k.2⟩theorem AV.pt_fineL{keep:List Nat}:∀l:List AV,AV.ptBL keep l=true->AV.fineL wN l->AV.fineL (λi=>i∈keep) l|[],_,_=>trivial|a::l,h,k=>by simp only[AV.ptBL,Bool.and_eq_true]at h;exact⟨AV.pt_fine a h.1 k.1,AV.pt_fineL l h.2 k.2⟩end
mutual theorem AV.fine_any{p:Nat->Prop}:∀a:AV,a.fine p->a.fine wN|.val _,_=>trivial|.agg cs,h=>AV.fine_anyL cs h|.tup cs,h=>AV.fine_anyL cs h|.sl _ _ _,h=>h|.ip _,h=>h|.mp _ _,_=>trivial|.ms _ _ _ _ _,_=>trivial|.obj _,_=>trivial|.clo _ fs cs,h=>⟨AV.fine_anyL fs h.1,AV.fine_anyL cs h.2⟩theorem AV.fine_anyL{p:Nat->Prop}:∀l:List AV,AV.fineL p l->AV.fineL wN l|[],_=>trivial|a::l,h=>⟨AV.fine_any a h.1,AV.fine_anyL l h.2⟩end
mutual theorem AV.unren_any{r:Nat->Nat}{f:Nat->Option Nat}:∀a:AV,(a.ren r f).fine wN->a.fine wN|.val _,_=>trivial|.agg cs,h=>AV.unren_anyL cs h|.tup cs,h=>AV.unren_anyL cs h|.sl _ _ _,h=>h|.ip _,h=>h|.mp _ _,_=>trivial|.ms _ _ _ _ _,_=>trivial|.obj _,_=>trivial|.clo _ fs cs,h=>⟨AV.unren_anyL fs h.1,AV.unren_anyL cs h.2⟩theorem AV.unren_anyL{r:Nat->Nat}{f:Nat->Option Nat}:∀l:List AV,AV.fineL wN (AV.renL r f l)->AV.fineL wN l|[],_=>trivial|a::l,h=>⟨AV.unren_any a h.1,AV.unren_anyL l h.2⟩end
mutual theorem AV.unfrz_any:∀a:AV,a.frz.fine wN->a.fine wN|.val _,_=>trivial|.agg cs,h=>AV.unfrz_anyL cs h|.tup cs,h=>AV.unfrz_anyL cs h|.sl _ _ _,h=>h|.ip _,h=>h|.mp _ _,_=>trivial|.ms _ _ _ _ _,_=>trivial|.obj _,_=>trivial|.clo _ fs cs,h=>⟨AV.unfrz_anyL fs h.1,AV.unfrz_anyL cs h.2⟩theorem AV.unfrz_anyL:∀l:List AV,AV.fineL wN (AV.frzL l)->AV.fineL wN l|[],_=>trivial|a::l,h=>⟨AV.unfrz_any a h.1,AV.unfrz_anyL l h.2⟩end
theorem S1(a:AV)(h:(frz1 a).fine wN):a.fine wN:=by
 unfold frz1 at h;split at h;·exact h
 ·exact AV.unfrz_any _ h
theorem I9:∀l:List AV,AV.fineL wN (l.map frz1)->AV.fineL wN l|[],_=>trivial|a::l,h=>⟨S1 a h.1,I9 l h.2⟩
theorem cH(a:AV)(h:(frzT a).fine wN):a.fine wN:=by
 unfold frzT at h;split at h;·exact I9 _ h
 ·exact S1 _ h
theorem zFz{keep:List Nat}(a:AV)(h:(frzN keep a).fine wN):a.fine wN:=by
 unfold frzN at h;split at h;·rename_i es n o;cases hb:o.nlB with|false=>rw[hb]at h;exact cH _ h|true=>
  rw[hb]at h;simp only[cond_true]at h;split at h;·trivial
  ·exact cH _ h
 ·exact cH _ h
theorem zFy(a:AV)(h:a.frzK.fine wN):a.fine wN:=by
 unfold AV.frzK at h;split at h;·rename_i es n o;cases hb:o.nlB with|false=>rw[hb]at h;exact h|true=>
  rw[hb]at h;simp only[cond_true]at h;split at h;·trivial
  ·exact h
 ·exact AV.unfrz_any _ h
theorem J0:∀l:List AV,AV.fineL wN (l.map AV.frzK)->AV.fineL wN l|[],_=>trivial|a::l,h=>⟨zFy a h.1,J0 l h.2⟩
theorem yC.fine_any{p:Nat->Prop}{X:yC}(h:X.fine p):X.fine wN:=by cases X with|cells cs=>exact AV.fine_anyL cs h|obj o=>trivial|row cs=>exact h|dead=>trivial
theorem yC.unfz_any{k:Bool}{X:yC}(h:(X.fzB k).fine wN):X.fine wN:=by cases X with
 |cells cs=>cases k with|true=>exact J0 cs h|false=>exact AV.unfrz_anyL cs h
 |obj o=>trivial|row cs=>exact h|dead=>trivial
theorem yC.unren_any{r:Nat->Nat}{f:Nat->Option Nat}{X:yC}(h:(X.ren r f).fine wN):X.fine wN:=by cases X with|cells cs=>exact AV.unren_anyL cs h|obj o=>trivial|row cs=>exact h|dead=>trivial
def yC.ptB(keep:List Nat):yC->Bool|.cells cs=>AV.ptBL keep cs|_=>true
theorem yC.pt_fine{keep:List Nat}{X:yC}(h:X.ptB keep=true)(k:X.fine wN):X.fine (λi=>i∈keep):=by cases X with|cells cs=>exact AV.pt_fineL cs h k|obj o=>trivial|row cs=>exact k|dead=>trivial
def J1(keep:List Nat)(s:yM):List Nat->Bool|[]=>true|i::l=>((look s.H i).getD (.cells [])).ptB keep&&J1 keep s l
theorem S2{keep:List Nat}{s:yM}:∀l:List Nat,J1 keep s l=true->(∀i∈l,((look s.H i).getD (.cells [])).fine wN)->sA keep s l|[],_,_=>trivial|i::l,h,k=>by simp only[J1,Bool.and_eq_true]at h;exact⟨yC.pt_fine h.1 (k i (List.mem_cons_self ..)),S2 l h.2 λj hj=>k j (List.mem_cons_of_mem _ hj)⟩
def zLq(keep live:List Nat):List AV->Nat->Bool|[],_=>true|a::l,t=>(bif tW live t then a.ptB keep else true)&&zLq keep live l (t+1)
theorem zGW{keep ks live:List Nat}{j:Nat->Value}:∀(env:List AV)(t:Nat),zLq keep live env t=true->AV.fineL wN (reEnv keep ks live j env t)->kH keep live env t|[],_,_,_=>trivial|a::l,t,h,k=>by simp only[zLq,Bool.and_eq_true]at h;simp only[reEnv,AV.fineL]at k;refine⟨?_,zGW l (t+1) h.2 k.2⟩;cases hm:tW live t with|false=>trivial|true=>have h1:=h.1;have k1:=k.1;rw[hm]at h1 k1;exact AV.pt_fine a h1 (AV.unren_any a k1)
theorem S3{H:List (Nat×yC)}{keep ks:List Nat}:∀(l:List Nat)(j:Nat),(∀p∈rM H keep ks l j,p.2.fine wN)->∀i∈l,((look H i).getD (.cells [])).fine wN
 |[],_,_,_,h=>nomatch h|i::l,j,h,k,hk=>by
  rcases List.mem_cons.1 hk with rfl|hk;·exact yC.unren_any (h _ (List.mem_cons_self ..))
  ·exact S3 l (j+1) (λp hp=>h p (List.mem_cons_of_mem _ hp)) k hk
theorem S4{H:List (Nat×yC)}{keep ks:List Nat}:∀(l:List Nat)(j m:Nat),m=l.length->(∀t,t<m->(look (rM H keep ks keep 0) (j+t))=(l[t]?).map λi=>((look H i).getD (.cells [])).ren (vC keep) (place ks))->(∀X∈uR (rM H keep ks keep 0) j m,X.fine wN)->∀i∈l,((look H i).getD (.cells [])).fine wN
 |[],_,_,_,_,_,_,h=>nomatch h|i::l,j,m,hm,hl,h,k,hk=>by
  subst hm;simp only[List.length_cons,uR]at h;rcases List.mem_cons.1 hk with rfl|hk
  ·have h0:=h _ (List.mem_cons_self ..);have:=hl 0 (by simp);simp only[Nat.add_zero,List.getElem?_cons_zero,Option.map_some]at this;rw[this]at h0;exact yC.unren_any h0
  ·refine S4 l (j+1) l.length rfl (λt ht=>?_) (λX hX=>h X (List.mem_cons_of_mem _ hX)) k hk;have:=hl (t+1) (by simpa using ht);rw[show j+1+t=j+(t+1)by omega,this];simp
def dG(P:Program)(pr:FuncId->List AV->yM->Option LA)(na:Nat)(fn:Func)(n:Nat)(m:Md)(fs:List Fr)(env:List AV)(s:yM)(os:List pR)(rs:List (Option Nat×Nat×Nat))(keep ks:List Nat)(own:Bool):Option (AV×List yC×List Ob):=match rP P pr n m fs env s os with
 |some (.fin x,env1,s1,[],ob)=>match x with|.exit _=>none|_=>match restamps rs env1 s1 with|none=>none|some (env',s')=>match P6 P (look s'.H) env' fn.results.toList with
  |some r=>bif reB na keep ks s'&&(J1 keep s' keep&&r.ptB keep)then some (bif own then frzN keep (r.ren (vC keep) (place ks))else(r.ren (vC keep) (place ks)).frz,(uR (nR keep ks s').H 0 keep.length).map (yC.fzB own),ob)else none|none=>none
 |_=>none
theorem zCF{P:Program}{pr:FuncId->List AV->yM->Option LA}(hp:uQ P pr)(hm:P.follows .mixedOrders=true){na:Nb}{fn:Func}{n:Nat}{m:Md}{fs:List Fr}{env:List AV}{s:yM}{os:List pR}{rs:List (Option Nat×Nat×Nat)}{keep ks:List Nat}{own:Bool}{res:AV}{H1:List yC}{nst:Nat}{ob:List Ob}(h:dG P pr na.n fn n m fs env s os rs keep ks own=some (res,H1,ob))(hob:yO P ob)(hn:nst<=ks.length)(fr:res.fine wN)(fb:∀X∈H1,X.fine wN):Q5 P na (kN P na fn res H1 nst) fs env s m:=by
 unfold dG at h;split at h
 ·rename_i x env1 s1 ob' hr;have key:(x=.normal\/x=.ret)/\∃env' s',restamps rs env1 s1=some (env',s')/\∃r,P6 P (look s'.H) env' fn.results.toList=some r/\(bif reB na.n keep ks s'&&(J1 keep s' keep&&r.ptB keep)then some (bif own then frzN keep (r.ren (vC keep) (place ks))else(r.ren (vC keep) (place ks)).frz,(uR (nR keep ks s').H 0 keep.length).map (yC.fzB own),ob')else none)=some (res,H1,ob):=by cases x with
   |exit i=>cases h|normal=>
    simp only at h;split at h;·cases h
    rename_i env' s' hrs;split at h;·rename_i r hr;exact⟨.inl rfl,env',s',hrs,r,hr,h⟩
    ·cases h|ret=>
    simp only at h;split at h;·cases h
    rename_i env' s' hrs;split at h;·rename_i r hr;exact⟨.inr rfl,env',s',hrs,r,hr,h⟩
    ·cases h
  obtain⟨hx,env',s',hrs,r,hres,h⟩:=key;cases hb:reB na.n keep ks s'&&(J1 keep s' keep&&r.ptB keep)with|false=>rw[hb]at h;cases h|true=>
   rw[hb]at h;simp only[cond_true,Option.some.injEq,Prod.mk.injEq]at h;obtain⟨e1,rfl,rfl⟩:=h;simp only[Bool.and_eq_true]at hb;obtain⟨b1,b2,b3⟩:=hb;have hfr:r.fine wN:=by subst e1;cases own with|true=>exact AV.unren_any _ (zFz _ fr)|false=>exact AV.unren_any _ (AV.unfrz_any _ fr)
   have hfb:∀i∈keep,((look s'.H i).getD (.cells [])).fine wN:=by refine S4 (keep:=keep) (ks:=ks) keep 0 keep.length rfl (λt ht=>?_) λX hX=>yC.unfz_any (fb _ (List.mem_map_of_mem hX));rw[nU];simp
   refine pW hp hm _ _ _ _ _ _ _ _ _ _ _ hr hob ⟨hx,rs,env',s',hrs,r,keep,ks,hres,b1,S2 _ b2 hfb,AV.pt_fine _ b3 hfr,λG w u hu=>?_,⟨own,rfl⟩,hn⟩;subst e1;cases own with|true=>exact V.frzN hu|false=>exact V.frz _ _ hu
 ·cases h
def cI(P:Program)(pr:FuncId->List AV->yM->Option LA)(na n:Nat)(m:Md)(fs:List Fr)(env:List AV)(s:yM)(os:List pR)(rs:List (Option Nat×Nat×Nat))(keep ks live:List Nat)(j:Nat->Value):Option (Code×List Fr×List AV×yM×List Ob):=match rP P pr n m fs env s os with
 |some (.head c fs',env1,s1,[],ob)=>match restamps rs env1 s1 with
  |none=>none|some (env',s')=>bif reB na keep ks s'&&(J1 keep s' keep&&zLq keep live env' 0)then some (c,fs',reEnv keep ks live j env' 0,nR keep ks s',ob)else none
 |_=>none
theorem m4{P:Program}{pr:FuncId->List AV->yM->Option LA}(hp:uQ P pr)(hm:P.follows .mixedOrders=true){na:Nb}{Q:AX->List AV->yM->Prop}{n:Nat}{m:Md}{fs fs':List Fr}{env:List AV}{E:(Nat->Value)->List AV}{s S:yM}{os:List pR}{rs:List (Option Nat×Nat×Nat)}{keep ks live:List Nat}{c:Code}{ob:List Ob}(h:∀j,cI P pr na.n n m fs env s os rs keep ks live j=some (c,fs',E j,S,ob))(hob:yO P ob)(fe:∀j,AV.fineL wN (E j))(fb:∀p∈S.H,p.2.fine wN)(hk:∀j,Dl P na c (E j) S (xV P na Q fs')):Q5 P na Q fs env s m:=by
 have h0:=h λ_=>undef;unfold cI at h0;split at h0
 ·rename_i c' fs1 env1 s1 ob' hr;split at h0;·cases h0
  rename_i env' s' hrs;cases hb:reB na.n keep ks s'&&(J1 keep s' keep&&zLq keep live env' 0)with|false=>rw[hb]at h0;cases h0|true=>rw[hb]at h0;simp only[cond_true,Option.some.injEq,Prod.mk.injEq]at h0;obtain⟨rfl,rfl,e0,rfl,rfl⟩:=h0;have hb':=hb;simp only[Bool.and_eq_true]at hb';obtain⟨b1,b2,b3⟩:=hb';refine pW hp hm _ _ _ _ _ _ _ _ _ _ _ hr hob ?_;refine Dl.restamps hrs ?_;refine Dl.re keep ks live b1 (S2 _ b2 (S3 keep 0 fb)) (zGW _ _ b3 (by rw[e0];exact fe _)) λj=>?_;have hj:=h j;unfold cI at hj;rw[hr]at hj;simp only[hrs,hb,cond_true,Option.some.injEq,Prod.mk.injEq]at hj;rw[hj.2.2.1];exact hk j
 ·cases h0
theorem bW(j:Nat->Value):∀(n i:Nat)(l:List (Nat×AV)),(∀p∈l,p.2.fine wN)->AV.fineL wN (sp j n i l)|0,_,_,_=>trivial|n+1,i,[],_=>⟨trivial,bW j n (i+1) [] (λ_ h=>nomatch h)⟩|n+1,i,(m,a)::l,h=>by rw[sp];cases Nat.beq m i with|true=>exact⟨h _ (List.mem_cons_self ..),bW j n (i+1) l λp hp=>h p (List.mem_cons_of_mem _ hp)⟩|false=>exact⟨trivial,bW j n (i+1) _ h⟩
class Cd{α:Type}(c:α->List AV):Prop where data:∀x,AV.DataL (c x)
theorem Cd.d{α:Type}{c:α->List AV}[Cd c](l:List α):AV.DataL (zI c l):=vI Cd.data l
instance:Cd zA:=⟨uY.data⟩
instance:Cd tmL:=⟨λt=>by rw[<-xF];exact uY.data t⟩
instance:Cd zQ:=⟨mN.data⟩
instance:Cd cC:=⟨Q7.data⟩
instance:Cd xE:=⟨D3.data⟩
instance:Cd zO:=⟨cD.data⟩
instance:Cd jP:=⟨zAM.data⟩
instance:Cd rQ:=⟨zAN.data⟩
def Rn(P:Program){ρ:Type}(T:ρ->Prop)(os:List pR)(ob:List Ob)(o:Option ρ):Prop:=∀r,o=some r->OL P os ob->T r
theorem cJ{α β:Type}{p:α⊕β->Prop}(h:∀a,p (.inl a))(k:∀b,p (.inr b)):∀x,p x|.inl a=>h a|.inr b=>k b
def Cs(P:Program){ρ:Type}(o:Option ρ)(f:FuncId)(H0:List yC)(args:List AV)(res:ρ->AV)(H1:ρ->List yC)(nst:Nat):Prop:=∀r,o=some r->CT P f H0 args (res r) (H1 r) nst
def Ls(P:Program){ρ:Type}(o:Option ρ)(na:Nb)(fn:Func)(c:Code)(E:(Nat->Value)->List AV)(S:yM)(res:ρ->AV)(H1:ρ->List yC)(nst:Nat)(fs:List Fr):Prop:=∀r,o=some r->∀j,Dl P na c (E j) S (xV P na (kN P na fn (res r) (H1 r) nst) fs)
theorem cN{P:Program}{ρ:Type}{f:FuncId}{H0:List yC}{args:List AV}{res:ρ->AV}{H1:ρ->List yC}{nst:Nat}:Cs P none f H0 args res H1 nst:=λ_ h=>nomatch h
theorem lN{P:Program}{ρ:Type}{na:Nb}{fn:Func}{c:Code}{E:(Nat->Value)->List AV}{S:yM}{res:ρ->AV}{H1:ρ->List yC}{nst:Nat}{fs:List Fr}:Ls P none na fn c E S res H1 nst fs:=λ_ h=>nomatch h
section
variable{P:Program}{ρ α:Type}{T:ρ->Prop}{os:List pR}{ob:List Ob}
theorem rN:Rn P T os ob none:=λ_ h=>nomatch h
theorem rH{o:Option α}{f:α->Option ρ}(k:∀a,o=some a->Rn P T os ob (f a)):Rn P T os ob (o>>=f):=λr h q=>by obtain⟨a,h1,h2⟩:=wH h;exact k a h1 r h2 q
theorem rI{c:Bool}{x y:Option ρ}(k1:c=true->Rn P T os ob x)(k2:c=false->Rn P T os ob y):Rn P T os ob (if c=true then x else y):=λr h q=>by
 rcases spl h with⟨h1,h⟩|⟨h1,h⟩;·exact k1 h1 r h q
 ·exact k2 h1 r h q
theorem rS{os':List pR}{ob':List Ob}{o:Option ρ}(w:OL P os ob->OL P os' ob')(k:Rn P T os' ob' o):Rn P T os ob o:=λr h q=>k r h (w q)
theorem rW{o:Option α}{f:α->Option ρ}{os':α->List pR}{ob':α->List Ob}(w:∀{a},o=some a->OL P os ob->OL P (os' a) (ob' a))(k:∀a,Rn P T (os' a) (ob' a) (f a)):Rn P T os ob (o>>=f):=rH λa h=>rS (w h) (k a)
theorem rA{o:Option α}{f:α->Option ρ}{X:Option AV}{c:α->AV}(n:Nat)(w:∀{a},o=some a->X=some (c a))(k:∀a,Rn P T (.av (c a)::(pS n++os)) (.av X (c a)::ob) (f a)):Rn P T os ob (o>>=f):=rH λa h=>rS (oA n (w h)) (k a)
theorem rC{o:Option α}{g:α->Option ρ}{f:FuncId}{H0:List yC}{args:List AV}{res:α->AV}{H1:α->List yC}{nst:Nat}(n:Nat)(ι:List Nat)(w:Cs P o f H0 args res H1 nst)(k:∀a,Rn P T (.call ι (H1 a) nst (res a) none::(pS n++os)) (.call f H0 args (res a) (H1 a) nst::ob) (g a)):Rn P T os ob (o>>=g):=rH λa h=>rS (oC n ι (w a h)) (k a)
theorem rB{c:Bool}{x y:Option ρ}(n:Nat)(k1:Rn P T (.bit true::(pS n++os)) (.bit c true::ob) x)(k2:Rn P T (.bit false::(pS n++os)) (.bit c false::ob) y):Rn P T os ob (if c=true then x else y):=rI (λh=>rS (oB n h) k1) λh=>rS (oB n h) k2
theorem rK{o:Option α}{c:α->Bool}{x y:α->Option ρ}{f:FuncId}{H0:List yC}{args:List AV}{res:α->AV}{H1:α->List yC}{nst:Nat}(n:Nat)(ι:List Nat)(w:Cs P o f H0 args res H1 nst)(k1:∀a,Rn P T (.call ι (H1 a) nst (res a) (some true)::(pS n++os)) (.call f H0 args (res a) (H1 a) nst::.bit (c a) true::ob) (x a))(k2:∀a,Rn P T (.call ι (H1 a) nst (res a) (some false)::(pS n++os)) (.call f H0 args (res a) (H1 a) nst::.bit (c a) false::ob) (y a)):Rn P T os ob (o>>=λa=>if c a=true then x a else y a):=rH λa h=>rI (λh1=>rS (oK n ι h1 (w a h)) (k1 a)) λh1=>rS (oK n ι h1 (w a h)) (k2 a)
theorem rZ(b:Prop){o:Option ρ}(k1:b->Rn P T os ob o)(k2:¬b->Rn P T os ob o):Rn P T os ob o:=(Classical.em b).elim k1 k2
end
def fT(P:Program){ρ:Type}(f:FuncId)(fn:Func)(H0:List yC)(args:List AV)(res:ρ->AV)(H1:ρ->List yC)(nst:Nat)(r:ρ):Prop:=P.funcs[f]?=some fn->fn.body.isNone=false->((res r).fine wN/\∀X∈H1 r,X.fine wN)->vP P f H0 args (res r) (H1 r) nst
def lT(P:Program){ρ:Type}(na:Nb)(fn:Func)(res:ρ->AV)(H1:ρ->List yC)(nst:Nat)(c:Code)(fs:List Fr)(env:List AV)(s:yM)(r:ρ):Prop:=((res r).fine wN/\∀X∈H1 r,X.fine wN)->Dl P na c env s (xV P na (kN P na fn (res r) (H1 r) nst) fs)
section
variable{P:Program}{ρ:Type}{res:ρ->AV}{H1:ρ->List yC}{nst:Nat}{fn:Func}{o:Option ρ}
def zUV(H0:List yC)(args:List AV)(res:ρ->AV)(H1:ρ->List yC):Prop:=AV.argL (λi=>i<H0.length) args/\(∀X∈H0,X.arg (λi=>i<H0.length))/\∀r,(res r).fine (λi=>i<(H1 r).length)/\∀X∈H1 r,X.fine (λi=>i<(H1 r).length)
theorem fW{f:FuncId}{H0:List yC}{args:List AV}(q1:P.funcs[f]?=some fn)(q2:fn.body.isNone=false)(a:zUV H0 args res H1)(k:Rn P (fT P f fn H0 args res H1 nst) [] [] o):Cs P o f H0 args res H1 nst:=λr h=>⟨k r h OL.nil q1 q2 ⟨AV.fine_any _ (a.2.2 r).1,λX hX=>yC.fine_any ((a.2.2 r).2 X hX)⟩,a.1,a.2.1,(a.2.2 r).1,(a.2.2 r).2⟩
theorem lW{na:Nb}{c:Code}{fs:List Fr}{E:(Nat->Value)->List AV}{s:yM}(a:∀r,(res r).fine wN/\∀X∈H1 r,X.fine wN)(k:∀j,Rn P (lT P na fn res H1 nst c fs (E j) s) [] [] o):Ls P o na fn c E s res H1 nst fs:=λr h j=>k j r h OL.nil (a r)
variable{pr:FuncId->List AV->yM->Option LA}(hp:uQ P pr)(hm:P.follows .mixedOrders=true){os:List pR}{ob:List Ob}{x:ρ}
include hp hm
theorem zSd{f:FuncId}{H0:List yC}{args:List AV}(m:Nat)(rs:List (Option Nat×Nat×Nat))(keep ks:List Nat)(own:Bool)(h:dG P pr H0.length fn 3000 (.run (tT fn)) [] (args++List.replicate (fn.ntmps-args.length) (.val undef)) (I1 H0) ((pS m++os).reverseAux []) rs keep ks own=some (res x,H1 x,ob.reverseAux []))(hn:nst<=ks.length):Rn P (fT P f fn H0 args res H1 nst) os ob (some x):=by intro r e q q1 q2 a;cases e;exact vP.body q1 q2 (zCF (na:=(H0.length:Nb)) (m:=.run (tT fn)) (fs:=[]) hp hm h (yO.rev _ _ q.ok trivial) hn a.1 a.2)
theorem zUW{f:FuncId}{H0:List yC}{args:List AV}(m:Nat)(rs:List (Option Nat×Nat×Nat))(keep ks live:List Nat){c:Code}{fs':List Fr}{E:(Nat->Value)->List AV}{S:yM}(hk:Ls P o H0.length fn c E S res H1 nst fs')(h:∀j,cI P pr H0.length 3000 (.run (tT fn)) [] (args++List.replicate (fn.ntmps-args.length) (.val undef)) (I1 H0) ((pS m++os).reverseAux []) rs keep ks live j=some (c,fs',E j,S,ob.reverseAux []))(fe:∀j,AV.fineL wN (E j))(fb:∀p∈S.H,p.2.fine wN):Rn P (fT P f fn H0 args res H1 nst) os ob o:=by intro r e q q1 q2 _;exact vP.body q1 q2 (m4 (na:=(H0.length:Nb)) (m:=.run (tT fn)) (fs:=[]) hp hm h (yO.rev _ _ q.ok trivial) fe fb (hk r e))
variable{na:Nb}{c:Code}{fs:List Fr}{env:List AV}{s:yM}
theorem lFin(m:Nat)(rs:List (Option Nat×Nat×Nat))(keep ks:List Nat)(own:Bool)(h:dG P pr na.n fn 3000 (.run c) (.loop c::fs) env s ((pS m++os).reverseAux []) rs keep ks own=some (res x,H1 x,ob.reverseAux []))(hn:nst<=ks.length):Rn P (lT P na fn res H1 nst c fs env s) os ob (some x):=by intro r e q a;cases e;exact Dl.step (zCF hp hm (m:=.run c) (fs:=.loop c::fs) h (yO.rev _ _ q.ok trivial) hn a.1 a.2)
theorem lHead(m:Nat)(rs:List (Option Nat×Nat×Nat))(keep ks live:List Nat){c':Code}{fs':List Fr}{E:(Nat->Value)->List AV}{S:yM}(hk:Ls P o na fn c' E S res H1 nst fs')(h:∀j,cI P pr na.n 3000 (.run c) (.loop c::fs) env s ((pS m++os).reverseAux []) rs keep ks live j=some (c',fs',E j,S,ob.reverseAux []))(fe:∀j,AV.fineL wN (E j))(fb:∀p∈S.H,p.2.fine wN):Rn P (lT P na fn res H1 nst c fs env s) os ob o:=by intro r e q _;exact Dl.step (m4 hp hm (m:=.run c) (fs:=.loop c::fs) h (yO.rev _ _ q.ok trivial) fe fb (hk r e))
end
mutual theorem AV.fine_dat{p:Nat->Prop}:∀a:AV,a.Data->a.fine p|.val _,_=>trivial|.agg cs,h=>AV.fine_datL cs h|.tup cs,h=>AV.fine_datL cs h|.sl _ _ _,h=>h.2|.ip _,h=>h|.mp _ _,h=>h.elim|.ms _ _ _ _ _,h=>h.elim|.obj _,h=>h.elim|.clo _ fs cs,h=>⟨AV.fine_datL fs h.1,AV.fine_datL cs h.2⟩theorem AV.fine_datL{p:Nat->Prop}:∀l:List AV,AV.DataL l->AV.fineL p l|[],_=>trivial|a::l,h=>⟨AV.fine_dat a h.1,AV.fine_datL l h.2⟩end
mutual theorem AV.ren_dat{r:Nat->Nat}{f:Nat->Option Nat}:∀a:AV,a.Data->a.ren r f=a
 |.val _,_=>rfl|.agg cs,h=>by rw[AV.ren,AV.ren_datL cs h]|.tup cs,h=>by rw[AV.ren,AV.ren_datL cs h]|.sl es n o,h=>by cases o<;>first|rfl|exact h.1.elim
 |.ip _,_=>rfl|.mp _ _,h=>h.elim|.ms _ _ _ _ _,h=>h.elim|.obj _,h=>h.elim|.clo _ fs cs,h=>by rw[AV.ren,AV.ren_datL fs h.1,AV.ren_datL cs h.2]theorem AV.ren_datL{r:Nat->Nat}{f:Nat->Option Nat}:∀l:List AV,AV.DataL l->AV.renL r f l=l|[],_=>rfl|a::l,h=>by rw[AV.renL,AV.ren_dat a h.1,AV.ren_datL l h.2]end
theorem AV.fineL_app{p:Nat->Prop}:∀l m:List AV,AV.fineL p l->AV.fineL p m->AV.fineL p (l++m)|[],_,_,h=>h|_::l,m,h,k=>⟨h.1,AV.fineL_app l m h.2 k⟩
theorem AV.renL_app{r:Nat->Nat}{f:Nat->Option Nat}:∀l m:List AV,AV.renL r f (l++m)=AV.renL r f l++AV.renL r f m|[],_=>rfl|a::l,m=>by rw[List.cons_append,AV.renL,AV.renL,AV.renL_app l m,List.cons_append]
def yC.tl(T:List AV):yC->yC|.cells cs=>.cells (cs++T)|X=>X
def M8(H:List (Nat×yC))(keep ks:List Nat)(b:Nat)(T:List AV):List Nat->Nat->List (Nat×yC)|[],_=>[]|i::l,j=>(j,bif Nat.beq i b then(((look H i).getD (.cells [])).ren (vC keep) (place ks)).tl T else((look H i).getD (.cells [])).ren (vC keep) (place ks))::M8 H keep ks b T l (j+1)
def zLp(keep ks:List Nat)(b:Nat)(T:List AV)(s:yM):yM:=⟨M8 s.H keep ks b T keep 0,keep.length,range' 0 ks.length,ks.length,[]⟩
def zFx(b k:Nat)(cs:List AV)(s:yM):yM:={s with H:=wB s.H b (.cells (cs.take k))}
theorem zLo{keep ks:List Nat}{b k:Nat}{cs:List AV}{s:yM}(hl:look s.H b=some (.cells cs))(hd:AV.DataL (cs.drop k)):zLp keep ks b (cs.drop k) (zFx b k cs s)=nR keep ks s:=by
 have key:∀(l:List Nat)(j:Nat),M8 (zFx b k cs s).H keep ks b (cs.drop k) l j=rM s.H keep ks l j:=by intro l;induction l with|nil=>intro j;rfl|cons i l ih=>intro j;rw[M8,rM,ih];have e:look (zFx b k cs s).H i=if i=b then some (.cells (cs.take k))else look s.H i:=uM _ _ _ _ _ hl;cases hb:Nat.beq i b with
  |false=>
   have:i≠b:=λe=>by subst e;simp at hb
   rw[e,if_neg this];rfl|true=>have:i=b:=Nat.eq_of_beq_eq_true hb;subst this;rw[e,if_pos rfl,hl];simp only[Option.getD_some,cond_true,yC.ren,yC.tl];rw[<-AV.ren_datL (r:=vC keep) (f:=place ks) _ hd,<-AV.renL_app,List.take_append_drop]
 unfold zLp nR;rw[key]
theorem bX{keep:List Nat}{b k:Nat}{cs:List AV}{s:yM}(hl:look s.H b=some (.cells cs))(hd:AV.DataL (cs.drop k)):∀l:List Nat,sA keep (zFx b k cs s) l->sA keep s l
 |[],_=>trivial|i::l,h=>by
  refine⟨?_,bX hl hd l h.2⟩;have h1:=h.1;rw[show look (zFx b k cs s).H i=if i=b then some (.cells (cs.take k))else look s.H i from uM _ _ _ _ _ hl]at h1;by_cases e:i=b;·subst e;rw[if_pos rfl]at h1;rw[hl];have:=AV.fineL_app _ _ h1 (AV.fine_datL _ hd);rwa[List.take_append_drop]at this
  ·rw[if_neg e]at h1;exact h1
def S5(P:Program)(pr:FuncId->List AV->yM->Option LA)(na n:Nat)(m:Md)(fs:List Fr)(env:List AV)(s:yM)(os:List pR)(rs:List (Option Nat×Nat×Nat))(keep ks live:List Nat)(b k:Nat)(j:Nat->Value):Option (Code×List Fr×List AV×yM×List Ob):=match rP P pr n m fs env s os with
 |some (.head c fs',env1,s1,[],ob)=>match restamps rs env1 s1 with|none=>none|some (env',s')=>match look s'.H b with
  |some (.cells cs)=>bif reB na keep ks s' then match kK keep (zFx b k cs s') keep,Q6 keep live env' 0 with|some o1,some o2=>some (c,fs',reEnv keep ks live j env' 0,zLp keep ks b (cs.drop k) (zFx b k cs s'),ob++(.data (cs.drop k)::(o1++o2)))|_,_=>none else none|_=>none
 |_=>none
theorem zIM{P:Program}{pr:FuncId->List AV->yM->Option LA}(hp:uQ P pr)(hm:P.follows .mixedOrders=true){na:Nb}{Q:AX->List AV->yM->Prop}{n:Nat}{m:Md}{fs fs':List Fr}{env:List AV}{E:(Nat->Value)->List AV}{s S:yM}{os:List pR}{rs:List (Option Nat×Nat×Nat)}{keep ks live:List Nat}{b k:Nat}{c:Code}{ob:List Ob}(h:∀j,S5 P pr na.n n m fs env s os rs keep ks live b k j=some (c,fs',E j,S,ob))(hob:yO P ob)(hk:∀j,Dl P na c (E j) S (xV P na Q fs')):Q5 P na Q fs env s m:=by
 have h0:=h λ_=>undef;unfold S5 at h0;split at h0
 ·rename_i c' fs1 env1 s1 ob' hr;split at h0;·cases h0
  rename_i env' s' hrs;split at h0
  ·rename_i cs hl;cases hb:reB na.n keep ks s' with|false=>rw[hb]at h0;cases h0|true=>
   rw[hb]at h0;simp only[cond_true]at h0;split at h0
   ·rename_i o1 o2 h1 h2;simp only[Option.some.injEq,Prod.mk.injEq]at h0;obtain⟨rfl,rfl,_,e3,rfl⟩:=h0;obtain⟨q1,q2⟩:=yO.append hob;obtain⟨q0,q2⟩:=q2;obtain⟨q3,q4⟩:=yO.append q2;have hd:AV.DataL (cs.drop k):=q0;rw[zLo hl hd]at e3;subst e3;refine pW hp hm _ _ _ _ _ _ _ _ _ _ _ hr q1 ?_;refine Dl.restamps hrs ?_;refine Dl.re keep ks live hb (bX hl hd _ (kL _ _ h1 q3)) (D2 _ _ _ h2 q4) λj=>?_;have hj:=h j;unfold S5 at hj;rw[hr]at hj;simp only[hrs,hb,cond_true,h1,h2,hl,Option.some.injEq,Prod.mk.injEq]at hj;rw[hj.2.2.1];exact hk j
   ·cases h0
  ·cases h0
 ·cases h0
theorem OL.lHeadT{P:Program}{pr:FuncId->List AV->yM->Option LA}(hp:uQ P pr)(hm:P.follows .mixedOrders=true){na:Nb}{Q:AX->List AV->yM->Prop}{c c':Code}{fs fs':List Fr}{env:List AV}{s S:yM}(m:Nat)(rs:List (Option Nat×Nat×Nat))(keep ks live:List Nat)(b k:Nat){os:List pR}{ob:List Ob}(q:OL P os ob){E:(Nat->Value)->List AV}(hk:∀j,Dl P na c' (E j) S (xV P na Q fs'))(h:∀j,S5 P pr na.n 3000 (.run c) (.loop c::fs) env s ((pS m++os).reverseAux []) rs keep ks live b k j=some (c',fs',E j,S,ob.reverseAux [])):Dl P na c env s (xV P na Q fs):=Dl.step (zIM hp hm (m:=.run c) (fs:=.loop c::fs) h (yO.rev _ _ q.ok trivial) hk)
theorem zRL{l k:Nat}:nS (l+(k+1)) 0=some 0:=by unfold nS;rw[if_pos ⟨Int.le_refl 0,by omega⟩];rfl
def m5{α:Type}(B k:Nat)(l m:List α):Option (List α):=if(l.length+k+m.length)*B<=140737488355328 then some (l++m)else none
theorem zFw{α:Type}{B k:Nat}{l m r:List α}(h:m5 B k l m=some r):(l.length+k+m.length)*B<=140737488355328/\r=l++m:=by
 unfold m5 at h;split at h;·rename_i q;cases h;exact⟨q,rfl⟩
 ·cases h
theorem zLn{P:Program}{α:Type}{c:α->List AV}{sz:Nat}(hc:wV c sz){t e:TypeId}{ie:TypeInfo}{z:Value}(ht:P.underlying t=some (.slice e))(hi:P.info? e=some ie)(hs:ie.size=sz)(hz:ie.zero=some z)(hzs:z.cells.size=sz)(h1:1<=sz){B:Nat}(hb:ie.bytes=B)(hB:1<=B){k:Nat}{pre:List AV}(hpre:pre.length=k*sz){l m r:List α}(h:m5 B k l m=some r)(hm:m.length≠0):Ob.ok P (.mk (eV P t t (some sz) (pre++zI c l) (l.length+k) none (zI c m) m.length) (pre++zI c r) (r.length+k)):=by obtain⟨h2,rfl⟩:=zFw h;subst hs;subst hb;have h3:(l.length+k+m.length)*1<=(l.length+k+m.length)*ie.bytes:=Nat.mul_le_mul_left _ hB;show eV P t t (some ie.size) (pre++zI c l) (l.length+k) none (zI c m) m.length=some (pre++zI c (l++m),(l++m).length+k);unfold eV;simp only[ht,hi,hz];rw[if_pos ⟨trivial,by rw[List.length_append,vM hc.len,hpre,Nat.add_mul];omega,vM hc.len m,h1,hzs,h2,by omega,bP hc.one m,hm,(λ_ h=>(Option.some.inj h).symm),(λ_ h=>nomatch h)⟩,List.append_assoc,bQ,List.length_append];congr 2;omega
end Go.Ab
set_option linter.unusedSimpArgs false
namespace Go.Ab
open Go Go.RowKit
def slC{α:Type}(c:α->List AV)(l:List α):List AV:=[.sl (zI c l) l.length .no]
theorem zUX{α:Type}{c:α->List AV}{n:Nat}(h:wV c n):wV (slC c) 1:=⟨λ_=>rfl,λl=>⟨⟨trivial,vI h.data l⟩,trivial⟩,λ_=>rfl⟩
instance{α:Type}{c:α->List AV}[h:Cd c]:Cd (slC c):=⟨λx=>⟨⟨trivial,vI h.data x⟩,trivial⟩⟩
theorem yR{P:Program}{α:Type}{C L:α->List AV}(he:∀t,C t=L t)(l:List α):Ob.ok P (.cells (zI L l) (zI C l) l.length l.length):=⟨by rw[show L=C from funext λt=>(he t).symm],rfl⟩
theorem zRM{P:Program}(cs:List AV)(n:Nat):Ob.ok P (.mk (some (cs,n)) cs n):=rfl
inductive zG where|mk(kind_:Int)(at_:Int)(name_:ByteArray)(n_:Int)(sub_:List zG)
def zG.kind_:zG->Int|.mk x _ _ _ _=>x
def zG.at_:zG->Int|.mk _ x _ _ _=>x
def zG.name_:zG->ByteArray|.mk _ _ x _ _=>x
def zG.n_:zG->Int|.mk _ _ _ x _=>x
def zG.sub_:zG->List zG|.mk _ _ _ _ x=>x
instance:Inhabited zG:=⟨.mk default default ⟨#[]⟩ default default⟩
mutual def zK:zG->List AV|.mk kind_ at_ name_ n_ sub_=>[ai kind_,ai at_,at' name_,ai n_,.sl (qT sub_) sub_.length .no]def qT:List zG->List AV|[]=>[]|t::l=>zK t++qT l end
theorem iN:∀l:List zG,qT l=zI zK l|[]=>rfl|t::l=>by simp only[qT,iN l,zI,List.flatMap_cons]
def gN(x:zG):List AV:=[ai x.kind_,ai x.at_,at' x.name_,ai x.n_,zB zK x.sub_ .no]
theorem vG(x:zG):zK x=gN x:=by cases x;simp only[zK,gN,zG.kind_,zG.at_,zG.name_,zG.n_,zG.sub_,iN,List.cons_append,List.nil_append]
def yV(x:zG):AV:=.agg (gN x)
mutual theorem dH:∀t:zG,AV.DataL (zK t)|.mk kind_ at_ name_ n_ sub_=>by rw[zK];exact⟨trivial,trivial,trivial,trivial,⟨trivial,iO sub_⟩,trivial⟩theorem iO:∀l:List zG,AV.DataL (qT l)|[]=>trivial|t::l=>by rw[qT];exact pX (dH t) (iO l)end
theorem pB:wV zK 5:=⟨λx=>by rw[vG];rfl,dH,λx=>by rw[vG];rfl⟩
instance:Cd zK:=⟨pB.data⟩
theorem vJ(l:List zG):AV.DataL (zI zK l):=vI pB.data l
structure zY where
 name_:ByteArray
 at_:Int
 type_:zG
instance:Inhabited zY:=⟨⟨⟨#[]⟩,default,default⟩⟩
def zF(x:zY):List AV:=[at' x.name_,ai x.at_,ai x.type_.kind_,ai x.type_.at_,at' x.type_.name_,ai x.type_.n_,zB zK x.type_.sub_ .no]
def D6(x:zY):AV:=.agg (zF x)
theorem sB:wV zF 7:=⟨λ_=>rfl,λ_=>⟨trivial,trivial,trivial,trivial,trivial,trivial,⟨trivial,vJ _⟩,trivial⟩,λ_=>rfl⟩
instance:Cd zF:=⟨sB.data⟩
theorem xX(l:List zY):AV.DataL (zI zF l):=vI sB.data l
structure xK where
 at_:Int
 pats_:List zG
 has_:Bool
 body_:zG
instance:Inhabited xK:=⟨⟨default,default,default,default⟩⟩
def zR(x:xK):List AV:=[ai x.at_,zB zK x.pats_ .no,ab x.has_,ai x.body_.kind_,ai x.body_.at_,at' x.body_.name_,ai x.body_.n_,zB zK x.body_.sub_ .no]
def zCG(x:xK):AV:=.agg (zR x)
theorem pY:wV zR 8:=⟨λ_=>rfl,λ_=>⟨trivial,⟨trivial,vJ _⟩,trivial,trivial,trivial,trivial,trivial,⟨trivial,vJ _⟩,trivial⟩,λ_=>rfl⟩
instance:Cd zR:=⟨pY.data⟩
theorem sC(l:List xK):AV.DataL (zI zR l):=vI pY.data l
structure yL where
 kind_:Int
 at_:Int
 name_:ByteArray
 tele_:List zY
 type_:zG
 cons_:List zY
 rows_:List xK
instance:Inhabited yL:=⟨⟨default,default,⟨#[]⟩,default,default,default,default⟩⟩
def vW(x:yL):List AV:=[ai x.kind_,ai x.at_,at' x.name_,zB zF x.tele_ .no,ai x.type_.kind_,ai x.type_.at_,at' x.type_.name_,ai x.type_.n_,zB zK x.type_.sub_ .no,zB zF x.cons_ .no,zB zR x.rows_ .no]
def D7(x:yL):AV:=.agg (vW x)
theorem mP:wV vW 11:=⟨λ_=>rfl,λ_=>⟨trivial,trivial,trivial,⟨trivial,xX _⟩,trivial,trivial,trivial,trivial,⟨trivial,vJ _⟩,⟨trivial,xX _⟩,⟨trivial,sC _⟩,trivial⟩,λ_=>rfl⟩
instance:Cd vW:=⟨mP.data⟩
structure zL where
 kind_:Int
 text_:ByteArray
 at_:Int
instance:Inhabited zL:=⟨⟨default,⟨#[]⟩,default⟩⟩
def zH(x:zL):List AV:=[ai x.kind_,at' x.text_,ai x.at_]
def J2(x:zL):AV:=.agg (zH x)
theorem pT:wV zH 3:=⟨λ_=>rfl,λ_=>⟨trivial,trivial,trivial,trivial⟩,λ_=>rfl⟩
instance:Cd zH:=⟨pT.data⟩
structure zCH where
 l_:List zL
 i_:Int
 at_:Int
 bad_:Int
instance:Inhabited zCH:=⟨⟨default,default,default,default⟩⟩
structure zIN where
 l_:List yE
 parts_:List vY
instance:Inhabited zIN:=⟨⟨default,default⟩⟩
structure zCI where
 signs_:List Int
 at_:List Int
 i_:Int
instance:Inhabited zCI:=⟨⟨default,default,default⟩⟩
structure zCJ where
 l_:List yE
 e_:Int
 at_:Int
instance:Inhabited zCJ:=⟨⟨default,default,default⟩⟩
structure zIO where e_:Int
instance:Inhabited zIO:=⟨⟨default⟩⟩
end Go.Ab
namespace Go.Proofs.YthncchbcdpbgaaaGreat
open Go Go.Ab Go.Proofs.Tryz
theorem zAV(b:Bool):b=true\/b=false:=by cases b<;>simp
theorem yZ{α:Type}{p:α->Prop}:∀x∈([]:List α),p x:=λ_ h=>nomatch h
theorem xA{α:Type}{p:α->Prop}{a:α}{l:List α}(h:p a)(k:∀x∈l,p x):∀x∈a::l,p x:=by
 intro x hx;rcases List.mem_cons.1 hx with rfl|hx;·exact h
 ·exact k x hx
instance:Cd entZ:=⟨zGV.data⟩
theorem o0:OL prog [] []:=OL.nil
abbrev mB(M:xU)(i:Nat):yC:=.cells [zB zO M.l .no,.mp i 0,zB zQ M.args .no,zB zQ M.own .no]
abbrev mR(M:xU):yC:=.cells [zB zO M.rl .no,zB rQ M.parts .no]
theorem tv:True:=trivial
theorem lz{a b:Nat}(h:Nat.ble (a+1) b=true):a<b:=Nat.le_of_ble_eq_true h
abbrev Ct:=CT prog
abbrev Cz{ρ:Type}:=@Cs prog ρ
abbrev Lz{ρ:Type}:=@Ls prog ρ
abbrev Ci:=vP prog
abbrev Cf:=FuncId->List yC->List AV->AV->List yC->Nat->Prop
abbrev Qf(f:FuncId)(fn:Func):Prop:=prog.funcs[f]?=some fn/\fn.body.isNone=false
theorem xC{p:Nat->Prop}(z:p 0)(s:∀n,p n->p (n+1)):∀n,p n:=λn=>Nat.rec z s n
section
variable{ρ:Type}{res:ρ->AV}{H1:ρ->List yC}{nst:Nat}{fn:Func}{o:Option ρ}{r x:ρ}{f:FuncId}{H0:List yC}{args:List AV}{os:List pR}{ob:List Ob}
theorem fw(q1:prog.funcs[f]?=some fn)(k:Rn prog (fT prog f fn H0 args res H1 nst) [] [] o)(q2:fn.body.isNone=false:=by kernel_rfl)(a:zUV H0 args res H1:=by(repeat' first|exact Cd.d _|exact trivial|exact lz rfl|exact yZ|refine And.intro ?_ ?_|refine xA ?_ ?_|refine cJ ?_ ?_|intro _)):Cs prog o f H0 args res H1 nst:=fW q1 q2 a k
theorem fG(m:Nat)(rs:List (Option Nat×Nat×Nat))(keep ks:List Nat)(own:Bool)(h:dG prog qQ H0.length fn 3000 (.run (tT fn)) [] (args++List.replicate (fn.ntmps-args.length) (.val undef)) (I1 H0) ((pS m++os).reverseAux []) rs keep ks own=some (res x,H1 x,ob.reverseAux []):=by kernel_rfl)(hn:nst<=ks.length:=by decide):Rn prog (fT prog f fn H0 args res H1 nst) os ob (some x):=zSd wG mixed m rs keep ks own h hn
theorem fF(m:Nat)(keep:List Nat)(h:dG prog qQ H0.length fn 3000 (.run (tT fn)) [] (args++List.replicate (fn.ntmps-args.length) (.val undef)) (I1 H0) ((pS m++os).reverseAux []) [] keep [] false=some (res x,H1 x,ob.reverseAux []):=by kernel_rfl):Rn prog (fT prog f fn H0 args res H1 0) os ob (some x):=zSd wG mixed m [] keep [] false h (Nat.le_refl _)
theorem fE(m:Nat)(h:dG prog qQ H0.length fn 3000 (.run (tT fn)) [] (args++List.replicate (fn.ntmps-args.length) (.val undef)) (I1 H0) ((pS m++os).reverseAux []) [] (range' 0 H0.length) [] false=some (res x,H1 x,ob.reverseAux []):=by kernel_rfl):Rn prog (fT prog f fn H0 args res H1 0) os ob (some x):=zSd wG mixed m [] _ [] false h (Nat.le_refl _)
theorem fH(m:Nat)(rs:List (Option Nat×Nat×Nat))(keep ks live:List Nat){c:Code}{fs':List Fr}{E:(Nat->Value)->List AV}{S:yM}(hk:Ls prog o H0.length fn c E S res H1 nst fs')(h:∀j,cI prog qQ H0.length 3000 (.run (tT fn)) [] (args++List.replicate (fn.ntmps-args.length) (.val undef)) (I1 H0) ((pS m++os).reverseAux []) rs keep ks live j=some (c,fs',E j,S,ob.reverseAux []):=by intro j;kernel_rfl)(fe:∀j,AV.fineL wN (E j):=by intro j;refine bW _ _ _ _ ?_;(repeat' first|exact Cd.d _|exact trivial|exact lz rfl|exact yZ|refine And.intro ?_ ?_|refine xA ?_ ?_|refine cJ ?_ ?_|intro _))(fb:∀p∈S.H,p.2.fine wN:=by(repeat' first|exact Cd.d _|exact trivial|exact lz rfl|exact yZ|refine And.intro ?_ ?_|refine xA ?_ ?_|refine cJ ?_ ?_|intro _)):Rn prog (fT prog f fn H0 args res H1 nst) os ob o:=zUW wG mixed m rs keep ks live hk h fe fb
variable{na:Nb}{c:Code}{fs:List Fr}{env:List AV}{s:yM}
theorem lw{E:(Nat->Value)->List AV}(k:∀j,Rn prog (lT prog na fn res H1 nst c fs (E j) s) [] [] o)(a:∀r,(res r).fine wN/\∀X∈H1 r,X.fine wN:=by(repeat' first|exact Cd.d _|exact trivial|exact lz rfl|exact yZ|refine And.intro ?_ ?_|refine xA ?_ ?_|refine cJ ?_ ?_|intro _)):Ls prog o na fn c E s res H1 nst fs:=lW a k
theorem lG(m:Nat)(rs:List (Option Nat×Nat×Nat))(keep ks:List Nat)(own:Bool)(h:dG prog qQ na.n fn 3000 (.run c) (.loop c::fs) env s ((pS m++os).reverseAux []) rs keep ks own=some (res x,H1 x,ob.reverseAux []):=by kernel_rfl)(hn:nst<=ks.length:=by decide):Rn prog (lT prog na fn res H1 nst c fs env s) os ob (some x):=lFin wG mixed m rs keep ks own h hn
theorem lF(m:Nat)(keep:List Nat)(h:dG prog qQ na.n fn 3000 (.run c) (.loop c::fs) env s ((pS m++os).reverseAux []) [] keep [] false=some (res x,H1 x,ob.reverseAux []):=by kernel_rfl):Rn prog (lT prog na fn res H1 0 c fs env s) os ob (some x):=lFin wG mixed m [] keep [] false h (Nat.le_refl _)
theorem lE(m:Nat)(h:dG prog qQ na.n fn 3000 (.run c) (.loop c::fs) env s ((pS m++os).reverseAux []) [] (range' 0 na.n) [] false=some (res x,H1 x,ob.reverseAux []):=by kernel_rfl):Rn prog (lT prog na fn res H1 0 c fs env s) os ob (some x):=lFin wG mixed m [] _ [] false h (Nat.le_refl _)
theorem lH(m:Nat)(rs:List (Option Nat×Nat×Nat))(keep ks live:List Nat){c':Code}{fs':List Fr}{E:(Nat->Value)->List AV}{S:yM}(hk:Ls prog o na fn c' E S res H1 nst fs')(h:∀j,cI prog qQ na.n 3000 (.run c) (.loop c::fs) env s ((pS m++os).reverseAux []) rs keep ks live j=some (c',fs',E j,S,ob.reverseAux []):=by intro j;kernel_rfl)(fe:∀j,AV.fineL wN (E j):=by intro j;refine bW _ _ _ _ ?_;(repeat' first|exact Cd.d _|exact trivial|exact lz rfl|exact yZ|refine And.intro ?_ ?_|refine xA ?_ ?_|refine cJ ?_ ?_|intro _))(fb:∀p∈S.H,p.2.fine wN:=by(repeat' first|exact Cd.d _|exact trivial|exact lz rfl|exact yZ|refine And.intro ?_ ?_|refine xA ?_ ?_|refine cJ ?_ ?_|intro _)):Rn prog (lT prog na fn res H1 nst c fs env s) os ob o:=lHead wG mixed m rs keep ks live hk h fe fb
end
section
variable{f:FuncId}{fn:Func}{H0 H1:List yC}{args:List AV}{res:AV}{nst:Nat}{os:List pR}{ob:List Ob}
theorem tF(q:Qf f fn)(m:Nat)(keep:List Nat)(k:OL prog os ob)(h:L3 prog qQ H0.length fn 3000 (.run (tT fn)) [] (args++List.replicate (fn.ntmps-args.length) (.val undef)) (I1 H0) ((pS m++os).reverseAux []) [] keep [] false=some (res,H1,ob.reverseAux []):=by kernel_rfl):vP prog f H0 args res H1 0:=OL.toFin wG mixed q m [] keep [] false k h (Nat.le_refl _)
theorem tG(q:Qf f fn)(m:Nat)(rs:List (Option Nat×Nat×Nat))(keep ks:List Nat)(own:Bool)(k:OL prog os ob)(h:L3 prog qQ H0.length fn 3000 (.run (tT fn)) [] (args++List.replicate (fn.ntmps-args.length) (.val undef)) (I1 H0) ((pS m++os).reverseAux []) rs keep ks own=some (res,H1,ob.reverseAux []):=by kernel_rfl)(hn:nst<=ks.length:=by decide):vP prog f H0 args res H1 nst:=OL.toFin wG mixed q m rs keep ks own k h hn
theorem tH(q:Qf f fn)(m:Nat)(rs:List (Option Nat×Nat×Nat))(keep ks live:List Nat)(k:OL prog os ob){c:Code}{fs':List Fr}{E:(Nat->Value)->List AV}{S:yM}(hk:∀j,Dl prog H0.length c (E j) S (xV prog H0.length (kN prog H0.length fn res H1 nst) fs'))(h:∀j,bN prog qQ H0.length 3000 (.run (tT fn)) [] (args++List.replicate (fn.ntmps-args.length) (.val undef)) (I1 H0) ((pS m++os).reverseAux []) rs keep ks live j=some (c,fs',E j,S,ob.reverseAux []):=by intro j;kernel_rfl):vP prog f H0 args res H1 nst:=OL.toHead wG mixed q m rs keep ks live k hk h
variable{na:Nb}{Q:AX->List AV->yM->Prop}{c c':Code}{fs fs':List Fr}{env:List AV}{s S:yM}
theorem olH(m:Nat)(rs:List (Option Nat×Nat×Nat))(keep ks live:List Nat)(k:OL prog os ob){E:(Nat->Value)->List AV}(hk:∀j,Dl prog na c' (E j) S (xV prog na Q fs'))(h:∀j,bN prog qQ na.n 3000 (.run c) (.loop c::fs) env s ((pS m++os).reverseAux []) rs keep ks live j=some (c',fs',E j,S,ob.reverseAux []):=by intro j;kernel_rfl):Dl prog na c env s (xV prog na Q fs):=OL.lHead wG mixed m rs keep ks live k hk h
theorem zSc(m:Nat)(rs:List (Option Nat×Nat×Nat))(keep ks live:List Nat)(bb nn:Nat)(k:OL prog os ob){E:(Nat->Value)->List AV}(hk:∀j,Dl prog na c' (E j) S (xV prog na Q fs'))(h:∀j,S5 prog qQ na.n 3000 (.run c) (.loop c::fs) env s ((pS m++os).reverseAux []) rs keep ks live bb nn j=some (c',fs',E j,S,ob.reverseAux []):=by intro j;kernel_rfl):Dl prog na c env s (xV prog na Q fs):=OL.lHeadT wG mixed m rs keep ks live bb nn k hk h
theorem olF(m:Nat)(keep:List Nat)(k:OL prog os ob)(h:L3 prog qQ na.n fn 3000 (.run c) (.loop c::fs) env s ((pS m++os).reverseAux []) [] keep [] false=some (res,H1,ob.reverseAux []):=by kernel_rfl):Dl prog na c env s (xV prog na (kN prog na fn res H1 0) fs):=OL.lFin wG mixed m [] keep [] false k h (Nat.le_refl _)
theorem olG(m:Nat)(rs:List (Option Nat×Nat×Nat))(keep ks:List Nat)(own:Bool)(k:OL prog os ob)(h:L3 prog qQ na.n fn 3000 (.run c) (.loop c::fs) env s ((pS m++os).reverseAux []) rs keep ks own=some (res,H1,ob.reverseAux []):=by kernel_rfl)(hn:nst<=ks.length:=by decide):Dl prog na c env s (xV prog na (kN prog na fn res H1 nst) fs):=OL.lFin wG mixed m rs keep ks own k h hn
end
theorem iP:prog.info? 37=some Tryz.t37:=by kernel_rfl
theorem zUY{k:Nat}{pre:List AV}(hp:pre.length=k*15){l m r:List yE}(h:m5 192 k l m=some r)(hm:m.length≠0):Ob.ok prog (.mk (eV prog 23 23 (some 15) (pre++(zI zO l)) (l.length+k) none (zI zO m) m.length) (pre++(zI zO r)) (r.length+k)):=zLn cD Tryz.underlying23 iP rfl rfl rfl (by decide) rfl (by decide) hp h hm
theorem zUZ{l m r:List yE}(h:yW 192 l m=some r)(hm:m.length=0):Ob.ok prog (.app 23 23 (zI zO l) (zI zO m) (zI zO r) l.length m.length r.length 15 true):=lD cD Tryz.underlying23 iP rfl rfl rfl (by decide) rfl (by decide) h hm
theorem nD:prog.info? 33=some Tryz.t33:=by kernel_rfl
theorem rR{l m r:List Tm}(h:yW 40 l m=some r)(hm:m.length=0):Ob.ok prog (.app 30 30 (zI zA l) (zI zA m) (zI zA r) l.length m.length r.length 3 true):=lD uY Tryz.underlying30 nD rfl rfl rfl (by decide) rfl (by decide) h hm
theorem S6:prog.info? 3=some Tryz.t3:=by kernel_rfl
theorem zLm{l m r:List Int}(h:yW 8 l m=some r)(hm:m.length=0):Ob.ok prog (.app 35 35 (zI zQ l) (zI zQ m) (zI zQ r) l.length m.length r.length 1 true):=lD mN Tryz.underlying35 S6 rfl rfl rfl (by decide) rfl (by decide) h hm
theorem zAW:prog.info? 169=some Tryz.t169:=by kernel_rfl
theorem zVz{l m r:List zY}(h:yW 88 l m=some r)(hm:m.length=0):Ob.ok prog (.app 54 54 (zI zF l) (zI zF m) (zI zF r) l.length m.length r.length 7 true):=lD sB Tryz.underlying54 zAW rfl rfl rfl (by decide) rfl (by decide) h hm
theorem zGX:prog.info? 9=some Tryz.t9:=by kernel_rfl
theorem zVy{l m r:List ByteArray}(h:yW 16 l m=some r)(hm:m.length=0):Ob.ok prog (.app 79 79 (zI xE l) (zI xE m) (zI xE r) l.length m.length r.length 1 true):=lD D3 Tryz.underlying79 zGX rfl rfl rfl (by decide) rfl (by decide) h hm
theorem zVx{n:Nat}(h:n=0):Ob.ok prog (.same 30 30 n):=zGT Tryz.underlying30 nD h
theorem zVw{n:Nat}(h:n=0):Ob.ok prog (.same 35 35 n):=zGT Tryz.underlying35 S6 h
theorem zVv{l m r:List Tm}(h:yW 40 l m=some r)(hm:m.length≠0):Ob.ok prog (.mk (eV prog 30 30 (some 3) (zI zA l) l.length none (zI zA m) m.length) (zI zA r) r.length):=zLw uY Tryz.underlying30 nD rfl rfl rfl (by decide) rfl (by decide) h hm
theorem zGY:prog.info? 108=some Tryz.t108:=by kernel_rfl
theorem zLl{l m r:List zL}(h:yW 32 l m=some r)(hm:m.length≠0):Ob.ok prog (.app 104 104 (zI zH l) (zI zH m) (zI zH r) l.length m.length r.length 3 false):=tK pT Tryz.underlying104 zGY rfl rfl rfl (by decide) rfl (by decide) h hm
theorem zRN{l m r:List yE}(h:yW 192 l m=some r)(hm:m.length≠0):Ob.ok prog (.app 23 23 (zI zO l) (zI zO m) (zI zO r) l.length m.length r.length 15 false):=tK cD Tryz.underlying23 iP rfl rfl rfl (by decide) rfl (by decide) h hm
theorem zGZ:prog.info? 259=some Tryz.t259:=by kernel_rfl
theorem zSb{l m r:List tC}(h:yW 56 l m=some r)(hm:m.length≠0):Ob.ok prog (.app 231 231 (zI jP l) (zI jP m) (zI jP r) l.length m.length r.length 3 false):=tK zAM Tryz.underlying231 zGZ rfl rfl rfl (by decide) rfl (by decide) h hm
theorem xS{l m r:List Tm}(h:yW 40 l m=some r)(hm:m.length≠0):Ob.ok prog (.app 30 30 (zI zA l) (zI zA m) (zI zA r) l.length m.length r.length 3 false):=tK uY Tryz.underlying30 nD rfl rfl rfl (by decide) rfl (by decide) h hm
theorem nX{l m r:List Int}(h:yW 8 l m=some r)(hm:m.length≠0):Ob.ok prog (.app 35 35 (zI zQ l) (zI zQ m) (zI zQ r) l.length m.length r.length 1 false):=tK mN Tryz.underlying35 S6 rfl rfl rfl (by decide) rfl (by decide) h hm
theorem zLk:prog.info? 60=some Tryz.t60:=by kernel_rfl
theorem zVu{l m r:List yL}(h:yW 168 l m=some r)(hm:m.length≠0):Ob.ok prog (.app 50 50 (zI vW l) (zI vW m) (zI vW r) l.length m.length r.length 11 false):=tK mP Tryz.underlying50 zLk rfl rfl rfl (by decide) rfl (by decide) h hm
theorem zLj{l m r:List zY}(h:yW 88 l m=some r)(hm:m.length≠0):Ob.ok prog (.app 54 54 (zI zF l) (zI zF m) (zI zF r) l.length m.length r.length 7 false):=tK sB Tryz.underlying54 zAW rfl rfl rfl (by decide) rfl (by decide) h hm
theorem zLi:prog.info? 57=some Tryz.t57:=by kernel_rfl
theorem zRO{l m r:List zG}(h:yW 64 l m=some r)(hm:m.length≠0):Ob.ok prog (.app 55 55 (zI zK l) (zI zK m) (zI zK r) l.length m.length r.length 5 false):=tK pB Tryz.underlying55 zLi rfl rfl rfl (by decide) rfl (by decide) h hm
theorem zHz:prog.info? 165=some Tryz.t165:=by kernel_rfl
theorem zVt{l m r:List xK}(h:yW 104 l m=some r)(hm:m.length≠0):Ob.ok prog (.app 58 58 (zI zR l) (zI zR m) (zI zR r) l.length m.length r.length 8 false):=tK pY Tryz.underlying58 zHz rfl rfl rfl (by decide) rfl (by decide) h hm
theorem bY{l m r:List ByteArray}(h:yW 16 l m=some r)(hm:m.length≠0):Ob.ok prog (.app 79 79 (zI xE l) (zI xE m) (zI xE r) l.length m.length r.length 1 false):=tK D3 Tryz.underlying79 zGX rfl rfl rfl (by decide) rfl (by decide) h hm
theorem zSa{l m r:List zUU}(h:yW 192 l m=some r)(hm:m.length≠0):Ob.ok prog (.app 23 23 (zI entZ l) (zI entZ m) (zI entZ r) l.length m.length r.length 15 false):=tK zGV Tryz.underlying23 iP rfl rfl rfl (by decide) rfl (by decide) h hm
theorem zHy:prog.info? 5=some Tryz.t5:=by kernel_rfl
theorem zLh{l r:List U8}{bs:ByteArray}(h:yW 1 l (gbs bs)=some r)(hm:(gbs bs).length≠0):Ob.ok prog (.aps 280 9 (zI cC l) bs (zI cC r) l.length r.length 1 false):=zLu Tryz.underlying280 Tryz.underlying9 zHy rfl rfl rfl rfl h (by rwa[kS]at hm)
theorem zIP{l r:List U8}{bs:ByteArray}(h:yW 1 l (gbs bs)=some r)(hm:(gbs bs).length=0):Ob.ok prog (.aps 280 9 (zI cC l) bs (zI cC r) l.length r.length 1 true):=zLt Tryz.underlying280 Tryz.underlying9 zHy rfl rfl rfl rfl h (by rwa[kS]at hm)
theorem zVs{m r:List Tm}(h:yW 40 ([]:List Tm) m=some r)(hm:m.length≠0):Ob.ok prog (.mk (eV prog 30 30 (none) [] 0 none (zI zA m) m.length) (zI zA r) r.length):=zCD uY Tryz.underlying30 nD rfl rfl rfl (by decide) rfl (by decide) h hm
theorem zVr{m r:List Int}(h:yW 8 ([]:List Int) m=some r)(hm:m.length≠0):Ob.ok prog (.mk (eV prog 35 35 (none) [] 0 none (zI zQ m) m.length) (zI zQ r) r.length):=zCD mN Tryz.underlying35 S6 rfl rfl rfl (by decide) rfl (by decide) h hm
theorem tQ(l:List U8){o:qI}:mV prog 280 9 (.sl (zI cC l) l.length o)=some (at' (rG l)):=zKX Tryz.underlying280 Tryz.underlying9 Tryz.underlying5 l
theorem zLg{n:Nat}{l:List U8}{bs:ByteArray}(h:gtx n l=some bs):Ob.ok prog (.str (nV prog 280 9 (zI cC l) n) bs):=zLr Tryz.underlying280 Tryz.underlying9 Tryz.underlying5 h
theorem zRP{l:List zL}{i:Int}{o:qI}{x:zL}(h:zM l i=some x):xD prog 104 (.sl (zI zH l) l.length o) (ai i)=some (.ip (zH x++zI zH (l.drop (i.toNat+1)))):=by have:=jM pT (k:=.i64) Tryz.underlying104 zGY rfl h (o:=o);exact this
theorem zAX:prog.info? 233=some Tryz.t233:=by kernel_rfl
theorem zVq{l:List vY}{i:Int}{o:qI}{x:vY}(h:zM l i=some x):xD prog 183 (.sl (zI rQ l) l.length o) (ai i)=some (.ip (rQ x++zI rQ (l.drop (i.toNat+1)))):=by have:=jM zAN (k:=.i64) Tryz.underlying183 zAX rfl h (o:=o);exact this
theorem zSA:prog.info? 23=some Tryz.t23:=by kernel_rfl
theorem zRQ{l:List (List yE)}{i:Int}{o:qI}{x:List yE}(h:zM l i=some x):xD prog 229 (.sl (zI (slC zO) l) l.length o) (ai i)=some (.ip ((slC zO) x++zI (slC zO) (l.drop (i.toNat+1)))):=by have:=jM (zUX cD) (k:=.i64) Tryz.underlying229 zSA rfl h (o:=o);exact this
theorem xP{l:List yE}{i:Int}{o:qI}{x:yE}(h:zM l i=some x):xD prog 23 (.sl (zI zO l) l.length o) (ai i)=some (.ip (zO x++zI zO (l.drop (i.toNat+1)))):=by have:=jM cD (k:=.i64) Tryz.underlying23 iP rfl h (o:=o);exact this
theorem zRR{l:List tC}{i:Int}{o:qI}{x:tC}(h:zM l i=some x):xD prog 231 (.sl (zI jP l) l.length o) (ai i)=some (.ip (jP x++zI jP (l.drop (i.toNat+1)))):=by have:=jM zAM (k:=.i64) Tryz.underlying231 zGZ rfl h (o:=o);exact this
theorem yY{l:List Tm}{i:Int}{o:qI}{x:Tm}(h:zM l i=some x):xD prog 30 (.sl (zI zA l) l.length o) (ai i)=some (.ip (tmL x++zI zA (l.drop (i.toNat+1)))):=by have:=jM uY (k:=.i64) Tryz.underlying30 nD rfl h (o:=o);rw[xF]at this;exact this
theorem pZ{l:List Int}{i:Int}{o:qI}{x:Int}(h:zM l i=some x):xD prog 35 (.sl (zI zQ l) l.length o) (ai i)=some (.ip (zQ x++zI zQ (l.drop (i.toNat+1)))):=by have:=jM mN (k:=.i64) Tryz.underlying35 S6 rfl h (o:=o);exact this
theorem zXh{l:List yL}{i:Int}{o:qI}{x:yL}(h:zM l i=some x):xD prog 50 (.sl (zI vW l) l.length o) (ai i)=some (.ip (vW x++zI vW (l.drop (i.toNat+1)))):=by have:=jM mP (k:=.i64) Tryz.underlying50 zLk rfl h (o:=o);exact this
theorem S7{l:List zY}{i:Int}{o:qI}{x:zY}(h:zM l i=some x):xD prog 54 (.sl (zI zF l) l.length o) (ai i)=some (.ip (zF x++zI zF (l.drop (i.toNat+1)))):=by have:=jM sB (k:=.i64) Tryz.underlying54 zAW rfl h (o:=o);exact this
theorem zCK{l:List zG}{i:Int}{o:qI}{x:zG}(h:zM l i=some x):xD prog 55 (.sl (zI zK l) l.length o) (ai i)=some (.ip (gN x++zI zK (l.drop (i.toNat+1)))):=by have:=jM pB (k:=.i64) Tryz.underlying55 zLi rfl h (o:=o);rw[vG]at this;exact this
theorem zXg{l:List xK}{i:Int}{o:qI}{x:xK}(h:zM l i=some x):xD prog 58 (.sl (zI zR l) l.length o) (ai i)=some (.ip (zR x++zI zR (l.drop (i.toNat+1)))):=by have:=jM pY (k:=.i64) Tryz.underlying58 zHz rfl h (o:=o);exact this
theorem zOD{l:List ByteArray}{i:Int}{o:qI}{x:ByteArray}(h:zM l i=some x):xD prog 79 (.sl (zI xE l) l.length o) (ai i)=some (.ip (xE x++zI xE (l.drop (i.toNat+1)))):=by have:=jM D3 (k:=.i64) Tryz.underlying79 zGX rfl h (o:=o);exact this
theorem zCL{l:List Int}{i x:Int}(h:zM l i=some x)(hl:l.length=9):mJ prog 292 (.agg (zI zQ l)) (ai i)=some (ai x):=zCj (k:=.i64) Tryz.underlying292 (q:=(false,1)) (by kernel_rfl) rfl hl h
theorem zLf{l:List Int}{i x:Int}(h:zM l i=some x)(hl:l.length=11):mJ prog 302 (.agg (zI zQ l)) (ai i)=some (ai x):=zCj (k:=.i64) Tryz.underlying302 (q:=(false,1)) (by kernel_rfl) rfl hl h
theorem zSB{b n k c z:Nat}{i:Int}(h:nS n i=some k):xD prog 183 (.ms b 0 n c z) (ai i)=some (.mp b (k*3)):=zAU Tryz.underlying183 zAX rfl h
theorem zRS{b n k c z:Nat}{i:Int}(h:nS n i=some k):xD prog 23 (.ms b 0 n c z) (ai i)=some (.mp b (k*15)):=zAU Tryz.underlying23 iP rfl h
theorem zLe{b n k c z:Nat}{i:Int}(h:nS n i=some k):xD prog 280 (.ms b 0 n c z) (ai i)=some (.mp b (k*1)):=zAU Tryz.underlying280 zHy rfl h
theorem zHx{b n k c z:Nat}{i:Int}(h:nS n i=some k):xD prog 30 (.ms b 0 n c z) (ai i)=some (.mp b (k*3)):=zAU Tryz.underlying30 nD rfl h
theorem zFv{s:ByteArray}{i x:Int}(h:I7 s i=some x):mJ prog 9 (at' s) (ai i)=some (.val (.int .u8 x)):=zKW Tryz.underlying9 h
theorem zHw(m:List (ByteArray×Int))(k:ByteArray):Ob.ok prog (.lk 181 (R7 m) (at' k) false (ai (R8 m k))):=zUP Tryz.underlying181 Tryz.underlying9 S6 rfl m k
theorem zLd{n:Int}{l:List vY}(h:gmk 72 (default:vY) n=some l):Ob.ok prog (.mk (rO prog 183 (ai n) (ai n)) (zI rQ l) l.length):=zLz Tryz.underlying183 zAX rfl rfl rfl (by decide) rfl (by decide) (by rfl) h
theorem zSC{n:Int}{l:List U8}(h:gmk 1 (default:U8) n=some l):Ob.ok prog (.mk (rO prog 280 (ai n) (ai n)) (zI cC l) l.length):=zLz Tryz.underlying280 zHy rfl rfl rfl (by decide) rfl (by decide) (by rfl) h
theorem zRT(m:List (ByteArray×Int))(k:ByteArray)(v:Int):Ob.ok prog (.mu 181 (R7 m) (at' k) (ai v) (R7 (L5 m k v))):=zUQ Tryz.underlying181 Tryz.underlying9 m k v
theorem zOE{l r:List Int}{a b:Int}(h:tX l a b=some r):vK prog 35 (.sl (zI zQ l) l.length .no) (some (ai a)) (some (ai b)) none=some (.sl (zI zQ r) r.length .no):=zKL mN Tryz.underlying35 S6 rfl h
theorem rT{l r:List Tm}{a:Int}(h:tX l a l.length=some r):vK prog 30 (.sl (zI zA l) l.length .no) (some (ai a)) none none=some (.sl (zI zA r) r.length .no):=zAP uY Tryz.underlying30 nD rfl h
theorem zOF{b off n c:Nat}{y:Int}{r:Nat×Nat}(h:zIK c 0 y=some r):vK prog 23 (.ms b off n c 15) none (some (ai y)) none=some (.ms b off r.2 c 15):=zLx Tryz.underlying23 iP rfl (by decide) h
theorem rU{l r:List Tm}{b:Int}(h:tX l 0 b=some r):vK prog 30 (.sl (zI zA l) l.length .no) none (some (ai b)) none=some (.sl (zI zA r) r.length .no):=zEV uY Tryz.underlying30 nD rfl h
theorem nE{l r:List Tm}{b:Int}{o:qI}(h:tX l 0 b=some r):vK prog 30 (.sl (zI zA l) l.length o) none (some (ai b)) (some (ai b))=some (.sl (zI zA r) r.length .full):=I8 uY Tryz.underlying30 nD rfl h
theorem zLc{l r:List ByteArray}{b:Int}{o:qI}(h:tX l 0 b=some r):vK prog 79 (.sl (zI xE l) l.length o) none (some (ai b)) (some (ai b))=some (.sl (zI xE r) r.length .full):=I8 D3 Tryz.underlying79 zGX rfl h
theorem zHv{l r:List Tm}{b:Int}{o:qI}(h:tX l 0 b=some r):∃a0,vK prog 30 (.sl (zI zA l) l.length o) none (some (ai b)) none=some a0/\a0.frz=.sl (zI zA r) r.length .no:=zCh uY Tryz.underlying30 nD rfl h
theorem zOG{n:Int}{l:List yE}(hp:n>0)(h:gmk 192 (default:yE) n=some l):Ob.ok prog (.mk (P9 prog 23 3 (ai n)) (zI zO l) l.length):=zUT Tryz.underlying3 hp (zLz Tryz.underlying23 iP rfl rfl rfl (by decide) rfl (by decide) (by rfl) h)
def ptG:Nat->Nat->Func->Code|0,_,f=>tT f|k+1,n,f=>if n=0 then tT f else if n%4=1 then inn (ptG k (n/4) f)else if n%4=2 then iH (ptG k (n/4) f)else sJ (ptG k (n/4) f)
abbrev pt:=ptG 99
abbrev Oz:=OL prog
abbrev dL:=Dl prog
abbrev fQ:=xV prog
abbrev nQ:=kN prog
abbrev qB(q0:List yE)(m:Nat)(q3 q4:List Int):yC:=.cells [zB zO q0 .no,.mp m 0,zB zQ q3 .no,zB zQ q4 .no]
abbrev qR(q1:List yE)(q2:List vY):yC:=.cells [zB zO q1 .no,zB rQ q2 .no]
theorem oDm{os:List pR}{ob:List Ob}(q0 q1:List yE)(q2:List vY)(q3 q4:List Int)(k:Oz os ob):Oz os (.data (zI rQ q2)::.data (zI zO q1)::.data (zI zQ q4)::.data (zI zQ q3)::.data (zI zO q0)::ob):=oD (dC q2)<|oD (dE q1)<|oD (dI q4)<|oD (dI q3)<|oD (dE q0) k
theorem oDM{os:List pR}{ob:List Ob}(M:xU)(k:Oz os ob):Oz os (.data (zI rQ M.parts)::.data (zI zO M.rl)::.data (zI zQ M.own)::.data (zI zQ M.args)::.data (zI zO M.l)::ob):=oDm M.l M.rl M.parts M.args M.own k
theorem fMa{n m:Nat}{q0 q1:List yE}{q2:List vY}{q3 q4:List Int}{l:List yC}(h:m<n)(k:∀X∈l,X.arg (λi=>i<n)):∀X∈qB q0 m q3 q4::qR q1 q2::l,X.arg (λi=>i<n):=xA ⟨⟨tv,dE _⟩,h,⟨tv,dI _⟩,⟨tv,dI _⟩,tv⟩ (xA ⟨⟨tv,dE _⟩,⟨tv,dC _⟩,tv⟩ k)
theorem fMf{n m:Nat}{q0 q1:List yE}{q2:List vY}{q3 q4:List Int}{l:List yC}(h:m<n)(k:∀X∈l,X.fine (λi=>i<n)):∀X∈qB q0 m q3 q4::qR q1 q2::l,X.fine (λi=>i<n):=xA ⟨dE _,h,dI _,dI _,tv⟩ (xA ⟨dE _,dC _,tv⟩ k)
abbrev zZ:=List Tm
abbrev yH:=List Int
abbrev zX:=List yE
abbrev tR:=List vY
mutual def zIQ:Nat->Tm->Int->Option (Int)|0,_,_=>none|c+1,a,d=>gO c a (yI (d+1)) 0 def gO:Nat->Tm->Int->Int->Option (Int)
 |0,_,_,_=>none|c+1,a,e,b=>if decide (b<(a.sub.length:Int))then zM a.sub b>>=λx2=>if decide (e>8192)then some e else zIQ c x2 e>>=λr5=>gO c a r5 (yI (b+1))else some e end
theorem zCM:∀c:Nat,(∀a d,Cz (zIQ c a d) 297 [] [yJ a,ai d] (λr=>ai r) (λ_=>[]) 0)/\(∀a e b,Lz (gO c a e b) 0 f297 (pt 4021 f297) (λj=>sp j 23 0 [(1,ai e),(10,zB zA a.sub .no),(11,ai (a.sub.length:Int)),(12,ai b)]) ⟨[],0,[],0,[]⟩ (λr=>ai r) (λ_=>[]) 0 [.blk 0,.seq (pt 63 f297)]):=xC ⟨λ_ _=>cN,λ_ _ _=>lN⟩ λc ih=>⟨λa d=>fw func297<|fH 3 [] [] [] [1,10,11,12] (ih.2 _ _ _),λa e b=>lw λ_=>rB 0 (rA 0 (yY (o:=.no)) λ_=>rB 2 (lE 0)<|rC 1 [] (ih.1 _ _) λ_=>lH 1 [] [] [] [1,10,11,12] (ih.2 _ _ _))<|lE 0⟩
theorem zXf{c a d}:Cz (zIQ c a d) 297 [] [yJ a,ai d] (λr=>ai r) (λ_=>[]) 0:=(zCM _).1 _ _
def zLb(b:Nat)(a:Tm):Option (Int):=zIQ b a 0>>=λr1=>some r1
theorem zVp{b a}:Cz (zLb b a) 257 [] [yJ a] (λr=>ai r) (λ_=>[]) 0:=fw func257<|rC 1 [] zXf λ_=>fE 0
mutual def zIR:Nat->Tm->Int->Option (Int)
 |0,_,_=>none|d+1,b,a=>if decide (a>128)then some a else gP d b a 0 a def gP:Nat->Tm->Int->Int->Int->Option (Int)
 |0,_,_,_,_=>none|d+1,b,a,c,e=>if decide (c<(b.sub.length:Int))then zM b.sub c>>=λx3=>zIR d x3 (yI (a+1))>>=λr5=>gP d b a (yI (c+1)) (mM e r5)else some e end
theorem zCN:∀d:Nat,(∀b a,Cz (zIR d b a) 258 [] [yJ b,ai a] (λr=>ai r) (λ_=>[]) 0)/\(∀b a c e,Lz (gP d b a c e) 0 f258 (pt 16309 f258) (λj=>sp j 27 0 [(1,ai a),(5,ai e),(13,zB zA b.sub .no),(14,ai (b.sub.length:Int)),(15,ai c)]) ⟨[],0,[],0,[]⟩ (λr=>ai r) (λ_=>[]) 0 [.blk 0,.seq (pt 255 f258)]):=xC ⟨λ_ _=>cN,λ_ _ _ _=>lN⟩ λd ih=>⟨λb a=>fw func258<|rB 0 (fE 0)<|fH 2 [] [] [] [1,5,13,14,15] (ih.2 _ _ _ _),λb a c e=>lw λ_=>rB 0 (rA 0 (yY (o:=.no)) λ_=>rC 4 [] (ih.1 _ _) λ_=>lH 2 [] [] [] [1,5,13,14,15] (ih.2 _ _ _ _))<|lE 0⟩
theorem zXe{d b a}:Cz (zIR d b a) 258 [] [yJ b,ai a] (λr=>ai r) (λ_=>[]) 0:=(zCN _).1 _ _
def zOH(b:Nat)(a:Tm):Option (Int):=zLb b a>>=λr1=>if decide (r1>8192)then some 129 else zIR b a 1>>=λr4=>some r4
theorem zXd{b a}:Cz (zOH b a) 210 [] [yJ a] (λr=>ai r) (λ_=>[]) 0:=fw func210<|rC 1 [] zVp λ_=>rB 0 (fE 0)<|rC 1 [] zXe λ_=>fE 0
def zOI(b:Nat)(a:Tm):Option (Bool):=if decide (a.k<1)then some false else if decide (a.k>8)then some false else zM ([0,0,0,2,2,2,0,1,0]:yH) a.k>>=λx3=>zM ([0,1048576,7,0,0,0,1048576,1048576,1048576]:yH) a.k>>=λx5=>if(a.sub.length:Int)==x3 then if decide (a.n>=0)then if decide (a.n<=x5)then if a.k !=7 then some true else zM a.sub 0>>=λx11=>some (x11.k==2)else some false else some false else some false
theorem zXc{b a}:Cz (zOI b a) 259 [] [yJ a] (λr=>ab r) (λ_=>[]) 0:=fw func259<|rB 1 (fE 0)<|rB 1 (fE 0)<|rW (λh4=>oA 1 (zCL h4 rfl)) λ_=>rW (λh6=>oA 1 (zCL h6 rfl)) λ_=>rB 2 (rB 1 (rB 1 (rB 1 (fE 0)<|rA 1 (yY (o:=.no)) λ_=>fE 2)<|fE 0)<|fE 0)<|fE 0
mutual def zIS:Nat->Tm->Option (Bool)
 |0,_=>none|c+1,a=>zOI c a>>=λr1=>if r1 then gQ c a 0 else some false def gQ:Nat->Tm->Int->Option (Bool)
 |0,_,_=>none|c+1,a,b=>if decide (b<(a.sub.length:Int))then zM a.sub b>>=λx5=>zIS c x5>>=λr7=>if r7 then gQ c a (yI (b+1))else some false else some true end
theorem zCO:∀c:Nat,(∀a,Cz (zIS c a) 211 [] [yJ a] (λr=>ab r) (λ_=>[]) 0)/\(∀a b,Lz (gQ c a b) 0 f211 (pt 4021 f211) (λj=>sp j 19 0 [(9,zB zA a.sub .no),(10,ai (a.sub.length:Int)),(11,ai b)]) ⟨[],0,[],0,[]⟩ (λr=>ab r) (λ_=>[]) 0 [.blk 0,.seq (pt 63 f211)]):=xC ⟨λ_=>cN,λ_ _=>lN⟩ λc ih=>⟨λa=>fw func211<|rK 1 [] zXc (λ_=>fH 3 [] [] [] [9,10,11] (ih.2 _ _)) λ_=>fE 1,λa b=>lw λ_=>rB 0 (rA 0 (yY (o:=.no)) λ_=>rK 3 [] (ih.1 _) (λ_=>lH 2 [] [] [] [9,10,11] (ih.2 _ _)) λ_=>lE 1)<|lE 0⟩
theorem zXb{c a}:Cz (zIS c a) 211 [] [yJ a] (λr=>ab r) (λ_=>[]) 0:=(zCO _).1 _
def rV(b:Nat)(a:Tm):Option (Bool):=zOH b a>>=λr1=>if decide (r1<=128)then zIS b a>>=λr4=>some r4 else some false
theorem qU{b a}:Cz (rV b a) 158 [] [yJ a] (λr=>ab r) (λ_=>[]) 0:=fw func158<|rC 1 [] zXd λ_=>rB 0 (rC 1 [] zXb λ_=>fE 0)<|fE 0
mutual theorem zHu:∀(t:Tm)(h:Int),t.Ok->0<=h->h<=8192->zC (λq=>zIQ q t h) (w7 t h)|.mk k n l,h,ho,h0,h1=>by refine zC.succ ?_;simp only[zIQ];rw[zS (by omega) (by omega),w7];exact zCP l (.mk k n l) 0 (h+1) rfl ho.1 ho.2 (by omega) (by omega)theorem zCP:∀(l:List Tm)(p:Tm)(v:Nat)(h:Int),p.sub.drop v=l->p.sub.length<9223372036854775808->gL l->0<=h->h<=8193->zC (λq=>gO q p h (v:Int)) (szL l h)
 |[],p,v,h,hd,hl,ho,h0,h1=>by refine zC.succ ?_;simp only[gO];rw[szL];exact zC.ifF (yF hd) zC.ret|t::l,p,v,h,hd,hl,ho,h0,h1=>by
  refine zC.succ ?_;simp only[gO];refine zC.ifT (yD hd) (zC.pure (yA hd) ?_);rw[szL];by_cases h2:h>8192;·rw[if_pos h2];exact zC.ifT (by simpa using h2) zC.ret
  ·rw[if_neg h2];refine zC.ifF (by simpa using h2) ((zHu t h ho.1 h0 (by omega)).bind ?_);rw[zV v (by have:=yK hd;omega)];have:=zCf t h h0 (by omega);exact zCP l p (v+1) (w7 t h) (zU hd) hl ho.2 (by omega) (by omega)end
theorem zHt(t:Tm)(ho:t.Ok):zC (λq=>zLb q t) (w7 t 0):=by simp only[zLb];exact(zHu t 0 ho (by omega) (by omega)).bind zC.ret
mutual theorem zHs:∀(t:Tm)(a:Int),t.Ok->0<=a->a<=129->zC (λq=>zIR q t a) (dpT t a)
 |.mk k n l,a,ho,h0,h1=>by
  refine zC.succ ?_;simp only[zIR];rw[dpT];by_cases h2:a>128;·rw[if_pos h2];exact zC.ifT (by simpa using h2) zC.ret
  ·rw[if_neg h2];exact zC.ifF (by simpa using h2) (zCQ l (.mk k n l) 0 a a rfl ho.1 ho.2 h0 (by omega))theorem zCQ:∀(l:List Tm)(p:Tm)(v:Nat)(a m:Int),p.sub.drop v=l->p.sub.length<9223372036854775808->gL l->0<=a->a<=128->zC (λq=>gP q p a (v:Int) m) (dpL l a m)|[],p,v,a,m,hd,hl,ho,h0,h1=>by refine zC.succ ?_;simp only[gP];rw[dpL];exact zC.ifF (yF hd) zC.ret|t::l,p,v,a,m,hd,hl,ho,h0,h1=>by refine zC.succ ?_;simp only[gP];refine zC.ifT (yD hd) (zC.pure (yA hd) ?_);rw[dpL,zS (x:=a+1) (by omega) (by omega)];refine(zHs t (a+1) ho.1 (by omega) (by omega)).bind ?_;rw[zV v (by have:=yK hd;omega)];exact zCQ l p (v+1) a _ (zU hd) hl ho.2 h0 h1 end
def zLa(t:Tm):Int:=if w7 t 0>8192 then 129 else dpT t 1
theorem zLA(t:Tm)(ho:t.Ok):zC (λq=>zOH q t) (zLa t):=by
 simp only[zOH];refine(zHt t ho).bind ?_;unfold zLa;by_cases h:w7 t 0>8192;·rw[if_pos h];exact zC.ifT (by simpa using h) zC.ret
 ·rw[if_neg h];exact zC.ifF (by simpa using h) ((zHs t 1 ho (by omega) (by omega)).bind zC.ret)
theorem zOJ(t:Tm):zLa t<=128↔t.nodes<=8192/\t.high<=128:=by
 have h1:=zKM t 0 (by omega) (by omega);have h2:=zKO t 1 (by omega) (by omega);unfold zLa;by_cases h3:t.nodes<=8192
 ·rw[if_neg (by rw[h1.1 (by omega)];omega)];by_cases h4:t.high<=128;·rw[h2.1 (by omega)];omega
  ·rw[h2.2 (by omega)];omega
 ·rw[if_pos (by rw[h1.2 (by omega)];omega)];omega
theorem zOK(t:Tm):zC (λq=>zOI q t) (I6 t):=by
 refine zC.mk λq=>?_;unfold zOI I6;generalize t.k=k;generalize t.n=n;generalize t.sub=l;by_cases h1:k<1;·rw[zSg (decide_eq_true h1)];simp;omega
 ·by_cases h2:k>8;·rw[zOb (decide_eq_false h1),zSg (decide_eq_true h2)];simp;omega
  ·rw[zOb (decide_eq_false h1),zOb (decide_eq_false h2)];have:k=1\/k=2\/k=3\/k=4\/k=5\/k=6\/k=7\/k=8:=by omega
   rcases this with rfl|rfl|rfl|rfl|rfl|rfl|rfl|rfl;case inr.inr.inr.inr.inr.inr.inl=>rcases l with _|⟨x,_|⟨y,l⟩⟩<;>simp[zM]<;>grind
   case inr.inr.inl|inr.inr.inr.inl|inr.inr.inr.inr.inl=>
    by_cases hl:l.length=2;·simp[zM,hl];grind
    ·have h':¬((l.length:Int)=2):=by omega
     simp[zM,hl,h']
   all_goals(simp[zM];grind)
mutual theorem zHr:∀(t:Tm),t.Ok->zC (λq=>zIS q t) (xW t)|.mk k n l,ho=>by refine zC.succ ?_;simp only[zIS];refine(zOK (.mk k n l)).bind ?_;rw[xW];cases I6 (.mk k n l)with|false=>exact zC.ifF rfl zC.ret|true=>exact zC.ifT rfl (zCR l (.mk k n l) 0 rfl ho.1 ho.2)theorem zCR:∀(l:List Tm)(p:Tm)(v:Nat),p.sub.drop v=l->p.sub.length<9223372036854775808->gL l->zC (λq=>gQ q p (v:Int)) (pU l)|[],p,v,hd,hl,ho=>by refine zC.succ ?_;simp only[gQ];rw[pU];exact zC.ifF (yF hd) zC.ret|t::l,p,v,hd,hl,ho=>by refine zC.succ ?_;simp only[gQ];refine zC.ifT (yD hd) (zC.pure (yA hd) ((zHr t ho.1).bind ?_));rw[pU];cases xW t with|false=>exact zC.ifF rfl zC.ret|true=>refine zC.ifT rfl ?_;rw[zV v (by have:=yK hd;omega)];exact zCR l p (v+1) (zU hd) hl ho.2 end
theorem xM(t:Tm)(ho:t.Ok):zC (λq=>rV q t) (zJ t):=by
 simp only[rV];refine(zLA t ho).bind ?_;have h:=zOJ t;unfold zJ;by_cases h1:zLa t<=128
 ·refine zC.ifT (by simpa using h1) (((zHr t ho).bind zC.ret).eq ?_);have:=h.1 h1;simp[this.1,this.2]
 ·refine zC.ifF (by simpa using h1) (zC.ret.eq ?_);by_cases h2:t.nodes<=8192
  ·by_cases h3:t.high<=128;·exact absurd (h.2 ⟨h2,h3⟩) h1
   ·simp[h3]
  ·simp[h2]
def zOL(c:Nat)(a:Tm)(b:Int):Option (Int):=if b==1 then if a.k==3 then some 1 else if a.k==4 then some 1 else some 0 else some 0
theorem zXa{c a b}:Cz (zOL c a b) 249 [] [yJ a,ai b] (λr=>ai r) (λ_=>[]) 0:=fw func249<|rB 0 (rB 1 (fE 0)<|rB 1 (fE 0)<|fE 0)<|fE 0
mutual def zIT:Nat->Tm->Int->Option (Int)|0,_,_=>none|d+1,a,c=>if a.k==1 then some (mM 0 (yI ((yI (a.n+1))-c)))else gR d a c 0 0 def gR:Nat->Tm->Int->Int->Int->Option (Int)|0,_,_,_,_=>none|d+1,a,c,b,e=>if decide (b<(a.sub.length:Int))then zM a.sub b>>=λx3=>zOL d a b>>=λr5=>zIT d x3 (yI (c+r5))>>=λr7=>gR d a c (yI (b+1)) (mM e r7)else some e end
theorem zCS:∀d:Nat,(∀a c,Cz (zIT d a c) 194 [] [yJ a,ai c] (λr=>ai r) (λ_=>[]) 0)/\(∀a c b e,Lz (gR d a c b e) 0 f194 (pt 16309 f194) (λj=>sp j 36 0 [(1,ai c),(2,.mp 0 0),(5,ai e),(18,zB zA a.sub .no),(19,ai (a.sub.length:Int)),(20,ai b)]) ⟨[(0,.cells [ai a.k,ai a.n,zB zA a.sub .no])],1,[],0,[]⟩ (λr=>ai r) (λ_=>[]) 0 [.blk 0,.seq (pt 255 f194)]):=xC ⟨λ_ _=>cN,λ_ _ _ _=>lN⟩ λd ih=>⟨λa c=>fw func194<|rB 1 (fE 4)<|fH 2 [] [0] [] [1,2,5,18,19,20] (ih.2 _ _ _ _),λa c b e=>lw λ_=>rB 0 (rA 0 (yY (o:=.no)) λ_=>rC 4 [] zXa λ_=>rC 1 [] (ih.1 _ _) λ_=>lH 2 [] [0] [] [1,2,5,18,19,20] (ih.2 _ _ _ _))<|lE 0⟩
theorem zXA{d a c}:Cz (zIT d a c) 194 [] [yJ a,ai c] (λr=>ai r) (λ_=>[]) 0:=(zCS _).1 _ _
mutual def zFu:Nat->Tm->Int->Int->Option yH|0,_,_,_=>none|e+1,a,b,c=>if a.k==b then yW 8 ([]:yH) [a.n]>>=λl2=>oE e a b c 0 l2 else if a.k==c then yW 8 ([]:yH) [a.n]>>=λl5=>oE e a b c 0 l5 else oE e a b c 0 []def oE:Nat->Tm->Int->Int->Int->yH->Option yH|0,_,_,_,_,_=>none|e+1,a,b,c,d,f=>if decide (d<(a.sub.length:Int))then zM a.sub d>>=λx5=>zFu e x5 b c>>=λr7=>yW 8 f r7>>=λl9=>oE e a b c (yI (d+1)) l9 else some f end
theorem zCT:∀e:Nat,(∀a b c,Cz (zFu e a b c) 251 [] [yJ a,ai b,ai c] (λr=>zB zQ r (.st 0 1)) (λ_=>[]) 1)/\(∀a b c d f,Lz (oE e a b c d f) 0 f251 (pt 16309 f251) (λj=>sp j 40 0 [(1,ai b),(2,ai c),(7,zB zQ f (.st 0 1)),(26,zB zA a.sub .no),(27,ai (a.sub.length:Int)),(28,ai d)]) ⟨[],0,[0],1,[]⟩ (λr=>zB zQ r (.st 0 1)) (λ_=>[]) 1 [.blk 0,.seq (pt 255 f251)]/\Lz (oE e a b c d f) 0 f251 (pt 16309 f251) (λj=>sp j 40 0 [(1,ai b),(2,ai c),(7,zB zQ f .nl),(26,zB zA a.sub .no),(27,ai (a.sub.length:Int)),(28,ai d)]) ⟨[],0,[],0,[]⟩ (λr=>zB zQ r (.st 0 1)) (λ_=>[]) 1 [.blk 0,.seq (pt 255 f251)]):=xC ⟨λ_ _ _=>cN,λ_ _ _ _ _=>⟨lN,lN⟩⟩ λe ih=>⟨λa b c=>fw func251<|rB 1 (rW (λh3=>oP 2 (nX h3 (by simp))) λ_=>fH 2 [] [] [0] [1,2,7,26,27,28] ((ih.2 _ _ _ _ _).1))<|rB 1 (rW (λh6=>oP 2 (nX h6 (by simp))) λ_=>fH 2 [] [] [0] [1,2,7,26,27,28] ((ih.2 _ _ _ _ _).1))<|fH 2 [] [] [] [1,2,7,26,27,28] ((ih.2 _ _ _ _ _).2),λa b c d f=>⟨lw λ_=>rB 0 (rA 0 (yY (o:=.no)) λ_=>rC 3 [] (ih.1 _ _ _) λr7=>rH λ_ h10=>rZ (List.length r7=0) (λh11=>rS (oP 0 (zLm h10 h11))<|lH 1 [] [] [0] [1,2,7,26,27,28] ((ih.2 _ _ _ _ _).1)) λh11=>rS (oP 0 (nX h10 h11))<|lH 1 [] [] [2] [1,2,7,26,27,28] ((ih.2 _ _ _ _ _).1))<|lG 0 [] [] [0] true,lw λ_=>rB 0 (rA 0 (yY (o:=.no)) λ_=>rC 3 [] (ih.1 _ _ _) λr7=>rH λ_ h10=>rZ (List.length r7=0) (λh11=>rS (oP 0 (zLm h10 h11))<|lH 1 [] [] [] [1,2,7,26,27,28] ((ih.2 _ _ _ _ _).2)) λh11=>rS (oP 0 (nX h10 h11))<|lH 1 [] [] [1] [1,2,7,26,27,28] ((ih.2 _ _ _ _ _).1))<|lG 0 [(none,6,1)] [] [0] true⟩⟩
theorem zVo{e a b c}:Cz (zFu e a b c) 251 [] [yJ a,ai b,ai c] (λr=>zB zQ r (.st 0 1)) (λ_=>[]) 1:=(zCT _).1 _ _ _
def zIU(c:Nat)(a:Tm):Option yH:=(rV c a)>>=λr1=>if r1=true then(zFu c a 6 7)>>=λr4=>if decide (List.length r4<4611686018427387904)=true then some (wT r4)else none else some []
theorem zVn{c:Nat}{a:Tm}{r:yH}(h:zIU c a=some r):CT prog 195 [] [yJ a] (.sl (zI zQ r) r.length .no) [] 0:=by
 unfold zIU at h;obtain⟨r1,h2,h⟩:=wH h;rcases zAV r1 with h3|h3
 ·replace h:=ifT h3 h;obtain⟨l,h5,h⟩:=wH h;rcases zAV (decide (List.length l<4611686018427387904))with h6|h6
  ·replace h:=ifT h6 h;replace h:=Option.some.inj h;subst h;subst h3;have hsz:List.length l<4611686018427387904:=by simpa using h6
   refine⟨?_,⟨⟨trivial,trivial,⟨trivial,dT _⟩,trivial⟩,trivial⟩,(λ_ h=>nomatch h),dI _,(λ_ h=>nomatch h)⟩;have k0:knd (tT f195)=1:=by kernel_rfl
   have k1:knd (sJ (tT f195))=1:=by kernel_rfl
   have k2:knd (sJ (sJ (tT f195)))=1:=by kernel_rfl
   have k3:R3 (iH (sJ (sJ (tT f195))))=true:=by kernel_rfl
   have k4:zEY (vS (iH (sJ (sJ (tT f195)))))[2]?=some (some 8,250,#[.tmp 7]):=by kernel_rfl
   have k5:(f250.name=="runtime.NumGoroutine")=false:=by kernel_rfl
   have k6:f250.body.isNone=false:=by kernel_rfl
   have x1:rP prog qQ 3000 (.run (iH (tT f195))) [] ([yJ a]++List.replicate (f195.ntmps-1) (.val undef)) (I1 []) []=some (.fin .normal,[yJ a,.mp 0 0,.sl [] 0 .nl,.val undef,.val undef,.val undef,.val undef,.val undef,.val undef],⟨[(0,.cells (tmL a))],1,[],0,[]⟩,[],[]):=by kernel_rfl
   have x2:rP prog qQ 3000 (.run (iH (sJ (tT f195)))) [] [yJ a,.mp 0 0,.sl [] 0 .nl,.val undef,.val undef,.val undef,.val undef,.val undef,.val undef] ⟨[(0,.cells (tmL a))],1,[],0,[]⟩ [.no,.call [] [] 0 (ab true) (some true),.no]=some (.fin .normal,[yJ a,.mp 0 0,.sl [] 0 .nl,yJ a,ab true,ab false,.val undef,.val undef,.val undef],⟨[(0,.cells (tmL a))],1,[],0,[]⟩,[],[.bit true true,.call 158 [] [yJ a] (ab true) [] 0]):=by kernel_rfl
   have x3:(L2 prog qQ (vS (iH (sJ (sJ (tT f195))))) ((vS (iH (sJ (sJ (tT f195))))).toList.take 2) 0 [yJ a,.mp 0 0,.sl [] 0 .nl,yJ a,ab true,ab false,.val undef,.val undef,.val undef] ⟨[(0,.cells (tmL a))],1,[],0,[]⟩ [.no,.call [] [] 1 (.sl (zI zQ l) l.length (.st 0 1)) none]).map Prod.snd=some ([yJ a,.mp 0 0,.sl [] 0 .nl,yJ a,ab true,ab false,yJ a,.sl (zI zQ l) l.length (.st 0 1),.val undef],⟨[(0,.cells (tmL a))],1,[0],1,[]⟩,[],[.call 251 [] [yJ a,ai 6,ai 7] (.sl (zI zQ l) l.length (.st 0 1)) [] 1]):=by kernel_rfl
   have x4:∀j:Nat->Value,(L2 prog qQ (vS (iH (sJ (sJ (tT f195))))) ((vS (iH (sJ (sJ (tT f195))))).toList.drop 3) 3 (eset (tells [] (mutEnv [] j [yJ a,.mp 0 0,.sl [] 0 .nl,yJ a,ab true,ab false,yJ a,.sl (zI zQ l) l.length (.st 0 1),.val undef] 0)) (some 8) (.sl (zI zQ (wT l)) (wT l).length .no)) (mO [] ⟨[(0,.cells (tmL a))],1,[0],1,[]⟩) []).map Prod.snd=some ([.val (j 0),.val (j 1),.sl (zI zQ (wT l)) (wT l).length .no,.val (j 3),ab true,ab false,.val (j 6),.val (j 7),.sl (zI zQ (wT l)) (wT l).length .no],⟨[],1,[],0,[]⟩,[],[]):=λj=>by kernel_rfl
   have x5:∀j:Nat->Value,L3 prog qQ 0 f195 3000 (.run (sJ (sJ (sJ (tT f195))))) [] [.val (j 0),.val (j 1),.sl (zI zQ (wT l)) (wT l).length .no,.val (j 3),ab true,ab false,.val (j 6),.val (j 7),.sl (zI zQ (wT l)) (wT l).length .no] ⟨[],1,[],0,[]⟩ [] [] [] [] false=some (.sl (zI zQ (wT l)) (wT l).length .no,[],[.data (zI zQ (wT l))]):=λj=>by kernel_rfl
   refine vP.body func195 (by kernel_rfl) ?_;refine Dv.seqP k0 ?_;refine pW (Q:=_) wG mixed 3000 (.run (iH (tT f195))) [] _ _ _ _ _ _ _ _ x1 yO.nil ?_;refine Dv.seqP k1 ?_;refine pW (Q:=_) wG mixed 3000 (.run (iH (sJ (tT f195)))) [] _ _ _ _ _ _ _ _ x2 (yO.cons (zGR rfl) (yO.cons (D4 (qU _ h2)) yO.nil)) ?_;refine Dv.seqP k2 ?_;obtain⟨id,k7⟩:=zUN k3;rw[k7];refine Dv.mut wG (na:=(0:Nat)) rfl 2 [] [] _ x3 (yO.cons (D4 (zVo _ h5)) yO.nil) k4 func250 k5 k6 (λi X h=>by cases h) ?_ x4 yO.nil ?_;·intro G0 W hB G w hE hR u hu;refine(n8 hR (by rfl) hsz hu).mono ?_;rintro e w'⟨v,b,S,z1,z2,z3,z4,z5,z6⟩;exact⟨v,b,S,z1,z2,z3,z4,z5,λG' _ _ hS=>⟨z6 G' hS,λq hq=>by cases hq⟩⟩
   ·intro j;exact M7 (na:=(0:Nat)) wG mixed (x5 j) (yO.cons (R1 (dI _)) yO.nil) (by decide)
  ·replace h:=ifF h6 h;cases h
 ·replace h:=ifF h3 h;replace h:=Option.some.inj h;subst h;exact⟨vP.toFin wG mixed func195 (by kernel_rfl) 3000 [.no,.call [] [] 0 (ab r1) (some false),.no] [] [] [] false (by kernel_rfl) (yO.cons (zGR h3) (yO.cons (D4 (qU _ h2)) (yO.cons (R1 (dI ([]:yH))) yO.nil))) (by decide),⟨⟨trivial,trivial,⟨trivial,dT _⟩,trivial⟩,trivial⟩,(λ_ h=>nomatch h),dI _,(λ_ h=>nomatch h)⟩
theorem zXB{c:Nat}{a:Tm}:Cz (zIU c a) 195 [] [yJ a] (λr=>.sl (zI zQ r) r.length .no) (λ_=>[]) 0:=λ_ h=>zVn h
def S8(b:Nat)(a:Tm)(c d:Int):Option (Bool):=rV b a>>=λr1=>if r1 then zIT b a 0>>=λr4=>if decide (r4>c)then some false else zIU b a>>=λr7=>if(r7.length:Int)==0 then some true else zM r7 (yI ((r7.length:Int)-1))>>=λx10=>some (decide (x10<d))else some false
theorem zFt{b a c d}:Cz (S8 b a c d) 136 [] [yJ a,ai c,ai d] (λr=>ab r) (λ_=>[]) 0:=fw func136<|rK 1 [] qU (λ_=>rC 2 [] zXA λ_=>rB 0 (fE 0)<|rC 1 [] zXB λ_=>rB 1 (fE 0)<|rA 2 (pZ (o:=.no)) λ_=>fE 2) λ_=>fE 1
def zIV(c:Nat)(a:Tm):Option yH:=(rV c a)>>=λr1=>if r1=true then(zFu c a 8 8)>>=λr4=>if decide (List.length r4<4611686018427387904)=true then some (wT r4)else none else some []
theorem zVm{c:Nat}{a:Tm}{r:yH}(h:zIV c a=some r):CT prog 204 [] [yJ a] (.sl (zI zQ r) r.length .no) [] 0:=by
 unfold zIV at h;obtain⟨r1,h2,h⟩:=wH h;rcases zAV r1 with h3|h3
 ·replace h:=ifT h3 h;obtain⟨l,h5,h⟩:=wH h;rcases zAV (decide (List.length l<4611686018427387904))with h6|h6
  ·replace h:=ifT h6 h;replace h:=Option.some.inj h;subst h;subst h3;have hsz:List.length l<4611686018427387904:=by simpa using h6
   refine⟨?_,⟨⟨trivial,trivial,⟨trivial,dT _⟩,trivial⟩,trivial⟩,(λ_ h=>nomatch h),dI _,(λ_ h=>nomatch h)⟩;have k0:knd (tT f204)=1:=by kernel_rfl
   have k1:knd (sJ (tT f204))=1:=by kernel_rfl
   have k2:knd (sJ (sJ (tT f204)))=1:=by kernel_rfl
   have k3:R3 (iH (sJ (sJ (tT f204))))=true:=by kernel_rfl
   have k4:zEY (vS (iH (sJ (sJ (tT f204)))))[2]?=some (some 8,250,#[.tmp 7]):=by kernel_rfl
   have k5:(f250.name=="runtime.NumGoroutine")=false:=by kernel_rfl
   have k6:f250.body.isNone=false:=by kernel_rfl
   have x1:rP prog qQ 3000 (.run (iH (tT f204))) [] ([yJ a]++List.replicate (f204.ntmps-1) (.val undef)) (I1 []) []=some (.fin .normal,[yJ a,.mp 0 0,.sl [] 0 .nl,.val undef,.val undef,.val undef,.val undef,.val undef,.val undef],⟨[(0,.cells (tmL a))],1,[],0,[]⟩,[],[]):=by kernel_rfl
   have x2:rP prog qQ 3000 (.run (iH (sJ (tT f204)))) [] [yJ a,.mp 0 0,.sl [] 0 .nl,.val undef,.val undef,.val undef,.val undef,.val undef,.val undef] ⟨[(0,.cells (tmL a))],1,[],0,[]⟩ [.no,.call [] [] 0 (ab true) (some true),.no]=some (.fin .normal,[yJ a,.mp 0 0,.sl [] 0 .nl,yJ a,ab true,ab false,.val undef,.val undef,.val undef],⟨[(0,.cells (tmL a))],1,[],0,[]⟩,[],[.bit true true,.call 158 [] [yJ a] (ab true) [] 0]):=by kernel_rfl
   have x3:(L2 prog qQ (vS (iH (sJ (sJ (tT f204))))) ((vS (iH (sJ (sJ (tT f204))))).toList.take 2) 0 [yJ a,.mp 0 0,.sl [] 0 .nl,yJ a,ab true,ab false,.val undef,.val undef,.val undef] ⟨[(0,.cells (tmL a))],1,[],0,[]⟩ [.no,.call [] [] 1 (.sl (zI zQ l) l.length (.st 0 1)) none]).map Prod.snd=some ([yJ a,.mp 0 0,.sl [] 0 .nl,yJ a,ab true,ab false,yJ a,.sl (zI zQ l) l.length (.st 0 1),.val undef],⟨[(0,.cells (tmL a))],1,[0],1,[]⟩,[],[.call 251 [] [yJ a,ai 8,ai 8] (.sl (zI zQ l) l.length (.st 0 1)) [] 1]):=by kernel_rfl
   have x4:∀j:Nat->Value,(L2 prog qQ (vS (iH (sJ (sJ (tT f204))))) ((vS (iH (sJ (sJ (tT f204))))).toList.drop 3) 3 (eset (tells [] (mutEnv [] j [yJ a,.mp 0 0,.sl [] 0 .nl,yJ a,ab true,ab false,yJ a,.sl (zI zQ l) l.length (.st 0 1),.val undef] 0)) (some 8) (.sl (zI zQ (wT l)) (wT l).length .no)) (mO [] ⟨[(0,.cells (tmL a))],1,[0],1,[]⟩) []).map Prod.snd=some ([.val (j 0),.val (j 1),.sl (zI zQ (wT l)) (wT l).length .no,.val (j 3),ab true,ab false,.val (j 6),.val (j 7),.sl (zI zQ (wT l)) (wT l).length .no],⟨[],1,[],0,[]⟩,[],[]):=λj=>by kernel_rfl
   have x5:∀j:Nat->Value,L3 prog qQ 0 f204 3000 (.run (sJ (sJ (sJ (tT f204))))) [] [.val (j 0),.val (j 1),.sl (zI zQ (wT l)) (wT l).length .no,.val (j 3),ab true,ab false,.val (j 6),.val (j 7),.sl (zI zQ (wT l)) (wT l).length .no] ⟨[],1,[],0,[]⟩ [] [] [] [] false=some (.sl (zI zQ (wT l)) (wT l).length .no,[],[.data (zI zQ (wT l))]):=λj=>by kernel_rfl
   refine vP.body func204 (by kernel_rfl) ?_;refine Dv.seqP k0 ?_;refine pW (Q:=_) wG mixed 3000 (.run (iH (tT f204))) [] _ _ _ _ _ _ _ _ x1 yO.nil ?_;refine Dv.seqP k1 ?_;refine pW (Q:=_) wG mixed 3000 (.run (iH (sJ (tT f204)))) [] _ _ _ _ _ _ _ _ x2 (yO.cons (zGR rfl) (yO.cons (D4 (qU _ h2)) yO.nil)) ?_;refine Dv.seqP k2 ?_;obtain⟨id,k7⟩:=zUN k3;rw[k7];refine Dv.mut wG (na:=(0:Nat)) rfl 2 [] [] _ x3 (yO.cons (D4 (zVo _ h5)) yO.nil) k4 func250 k5 k6 (λi X h=>by cases h) ?_ x4 yO.nil ?_;·intro G0 W hB G w hE hR u hu;refine(n8 hR (by rfl) hsz hu).mono ?_;rintro e w'⟨v,b,S,z1,z2,z3,z4,z5,z6⟩;exact⟨v,b,S,z1,z2,z3,z4,z5,λG' _ _ hS=>⟨z6 G' hS,λq hq=>by cases hq⟩⟩
   ·intro j;exact M7 (na:=(0:Nat)) wG mixed (x5 j) (yO.cons (R1 (dI _)) yO.nil) (by decide)
  ·replace h:=ifF h6 h;cases h
 ·replace h:=ifF h3 h;replace h:=Option.some.inj h;subst h;exact⟨vP.toFin wG mixed func204 (by kernel_rfl) 3000 [.no,.call [] [] 0 (ab r1) (some false),.no] [] [] [] false (by kernel_rfl) (yO.cons (zGR h3) (yO.cons (D4 (qU _ h2)) (yO.cons (R1 (dI ([]:yH))) yO.nil))) (by decide),⟨⟨trivial,trivial,⟨trivial,dT _⟩,trivial⟩,trivial⟩,(λ_ h=>nomatch h),dI _,(λ_ h=>nomatch h)⟩
theorem zXC{c:Nat}{a:Tm}:Cz (zIV c a) 204 [] [yJ a] (λr=>.sl (zI zQ r) r.length .no) (λ_=>[]) 0:=λ_ h=>zVm h
theorem zHq(a b:Int):mM a b=max a b:=by unfold mM;split<;>omega
theorem wX{k n:Int}{l:List Tm}(h:xW (.mk k n l)=true):I6 (.mk k n l)=true/\pU l=true:=by rw[xW]at h;simpa using h
theorem wU{t:Tm}{l:List Tm}(h:pU (t::l)=true):xW t=true/\pU l=true:=by rw[pU]at h;simpa using h
theorem kT{k n:Int}{l:List Tm}(h:I6 (.mk k n l)=true):0<=n/\n<=1048576/\1<=k/\k<=8/\l.length<=2:=by have:=sR h;exact⟨this.2.2.1,this.2.2.2.1,this.1,this.2.1,this.2.2.2.2.1⟩
mutual theorem wL:∀t:Tm,xW t=true->t.Ok|.mk k n l,h=>by have h1:=wX h;rw[Tm.Ok];exact⟨by have:=(kT h1.1).2.2.2.2;omega,zCU l h1.2⟩theorem zCU:∀l:List Tm,pU l=true->gL l|[],_=>by rw[gL];trivial|t::l,h=>by have:=wU h;rw[gL];exact⟨wL t this.1,zCU l this.2⟩end
mutual theorem zOM:∀(t:Tm)(b:Int),0<=u4 t b
 |.mk k n l,b=>by
  rw[u4];split;·omega
  ·exact zHp l k 0 b theorem zHp:∀(l:List Tm)(k:Int)(i:Nat)(b:Int),0<=Q9 l k i b|[],k,i,b=>by rw[Q9];omega|t::l,k,i,b=>by rw[Q9];have:=zOM t (b+u3 k i);omega end
theorem zLB(t:Tm)(i:Nat):zC (λq=>zOL q t (i:Int)) (u3 t.k i):=by
 refine zC.mk λq=>?_;simp only[zOL,u3];by_cases h1:i=1;·subst h1;simp;by_cases h3:t.k=3<;>by_cases h4:t.k=4<;>simp[h3,h4]
 ·have:¬((i:Int)=1):=by omega
  simp[h1,this]
theorem zHo(k:Int)(i:Nat):0<=u3 k i/\u3 k i<=1:=by unfold u3;split<;>omega
mutual theorem zCV:∀(t:Tm)(b:Int),xW t=true->0<=b->b+t.high<=4611686018427387904->zC (λq=>zIT q t b) (u4 t b)
 |.mk k n l,b,hg,h0,h1=>by
  refine zC.succ ?_;simp only[zIT,Tm.k,Tm.n];have hh:=wX hg;have hn:=kT hh.1;rw[u4];by_cases hk:k=1
  ·rw[if_pos hk];rw[Tm.high]at h1;refine zC.ifT (by simpa using hk) (zC.ret.eq ?_);rw[zS (x:=n+1) (by omega) (by omega),zS (by omega) (by omega),zHq]
  ·rw[if_neg hk];refine zC.ifF (by simpa using hk) ?_;rw[Tm.high]at h1;exact(m6 l (.mk k n l) 0 b 0 rfl (by have:=hn.2.2.2.2;simp only[Tm.sub];omega) hh.2 h0 (by omega) (by omega)).eq (by have:=zHp l k 0 b;simp only[Tm.k];omega)theorem m6:∀(l:List Tm)(p:Tm)(v:Nat)(b m:Int),p.sub.drop v=l->p.sub.length<9223372036854775808->pU l=true->0<=b->0<=m->b+1+qL l<=4611686018427387904->zC (λq=>gR q p b (v:Int) m) (max m (Q9 l p.k v b))|[],p,v,b,m,hd,hl,ho,h0,hm,h1=>by refine zC.succ ?_;simp only[gR];rw[Q9];exact zC.ifF (yF hd) (zC.ret.eq (by omega))|t::l,p,v,b,m,hd,hl,ho,h0,hm,h1=>by refine zC.succ ?_;simp only[gR];have hg:=wU ho;have hu:=zHo p.k v;rw[qL]at h1;refine zC.ifT (yD hd) (zC.pure (yA hd) ((zLB p v).bind ?_));rw[zS (x:=b+u3 p.k v) (by omega) (by omega)];refine(zCV t (b+u3 p.k v) hg.1 (by omega) (by omega)).bind ?_;rw[zV v (by have:=yK hd;omega),zHq];refine(m6 l p (v+1) b _ (zU hd) hl hg.2 h0 (by omega) (by omega)).eq ?_;rw[Q9];omega end
mutual theorem bZ:∀(t:Tm)(a b:Int),(iL t a b).length<=t.nodes|.mk k n l,a,b=>by rw[iL,Tm.nodes];have:=zCW l a b;split<;>simp<;>omega theorem zCW:∀(l:List Tm)(a b:Int),(R0 l a b).length<=yU l|[],a,b=>by rw[R0,yU];simp|t::l,a,b=>by rw[R0,yU];have:=bZ t a b;have:=zCW l a b;simp;omega end
mutual theorem cK:∀(t:Tm)(a b:Int),t.Ok->t.nodes<=8192->zC (λq=>zFu q t a b) (iL t a b)
 |.mk k n l,a,b,ho,hn=>by
  refine zC.succ ?_;simp only[zFu,Tm.k,Tm.n];rw[iL];rw[Tm.nodes]at hn;by_cases ha:k=a
  ·refine zC.ifT (by simpa using ha) (zC.pure (zW (by simp)) ?_);rw[if_pos (.inl ha)];exact nY l (.mk k n l) 0 a b [n] rfl ho.1 ho.2 (by simp;omega)
  ·refine zC.ifF (by simpa using ha) ?_;by_cases hb:k=b;·refine zC.ifT (by simpa using hb) (zC.pure (zW (by simp)) ?_);rw[if_pos (.inr hb)];exact nY l (.mk k n l) 0 a b [n] rfl ho.1 ho.2 (by simp;omega)
   ·refine zC.ifF (by simpa using hb) ?_;rw[if_neg (by simp[ha,hb])];exact nY l (.mk k n l) 0 a b [] rfl ho.1 ho.2 (by simp;omega)theorem nY:∀(l:List Tm)(p:Tm)(v:Nat)(a b:Int)(m:List Int),p.sub.drop v=l->p.sub.length<9223372036854775808->gL l->m.length+yU l<=8192->zC (λq=>oE q p a b (v:Int) m) (m++R0 l a b)|[],p,v,a,b,m,hd,hl,ho,hn=>by refine zC.succ ?_;simp only[oE];rw[R0];exact zC.ifF (yF hd) (zC.ret.eq (by simp))|t::l,p,v,a,b,m,hd,hl,ho,hn=>by refine zC.succ ?_;simp only[oE];rw[yU]at hn;have hc:=bZ t a b;refine zC.ifT (yD hd) (zC.pure (yA hd) ((cK t a b ho.1 (by omega)).bind (zC.pure (zW (by omega)) ?_)));rw[zV v (by have:=yK hd;omega)];refine(nY l p (v+1) a b _ (zU hd) hl ho.2 (by simp;omega)).eq ?_;rw[R0];simp end
theorem zN{t:Tm}(h:zJ t=true):t.nodes<=8192/\t.high<=128/\xW t=true:=by unfold zJ at h;simp at h;exact⟨h.1.1,h.1.2,h.2⟩
def m7(t:Tm)(a b:Int):List Int:=if zJ t=true then wT (iL t a b)else[]
theorem zLC(t:Tm)(ho:t.Ok):zC (λq=>zIV q t) (m7 t 8 8):=by
 simp only[zIV];refine(xM t ho).bind ?_;unfold m7;by_cases h:zJ t=true;·have hs:=zN h;have:=bZ t 8 8;rw[if_pos h];refine zC.ifT h ((cK t 8 8 ho hs.1).bind (zC.mk λq=>?_));rw[if_pos (by simp;omega)]
 ·rw[if_neg h];exact zC.ifF (by simpa using h) zC.ret
theorem zFs(t:Tm)(ho:t.Ok):zC (λq=>zIU q t) (m7 t 6 7):=by
 simp only[zIU];refine(xM t ho).bind ?_;unfold m7;by_cases h:zJ t=true;·have hs:=zN h;have:=bZ t 6 7;rw[if_pos h];refine zC.ifT h ((cK t 6 7 ho hs.1).bind (zC.mk λq=>?_));rw[if_pos (by simp;omega)]
 ·rw[if_neg h];exact zC.ifF (by simpa using h) zC.ret
theorem S9(x:Int):∀l:List Int,x∈pI l↔x∈l
 |[]=>by simp[pI]|[y]=>by simp[pI]|y::z::l=>by
  rw[qS];have:=S9 x (z::l);split;·subst_vars;rw[this];simp
  ·rw[List.mem_cons,this];simp
theorem aA(x:Int)(l:List Int):x∈wT l↔x∈l:=by unfold wT;rw[S9];exact(kP l).mem_iff
theorem J3:∀l:List Int,l.Pairwise (·<=·)->(pI l).Pairwise (·<=·)
 |[],_=>by simp[pI]|[y],_=>by simp[pI]|y::z::l,h=>by
  rw[qS];have h2:=J3 (z::l) (List.pairwise_cons.1 h).2;split;·exact h2
  ·refine List.pairwise_cons.2 ⟨λw hw=>?_,h2⟩;exact(List.pairwise_cons.1 h).1 w ((S9 w _).1 hw)
theorem zCX(l:List Int):(wT l).Pairwise (·<=·):=J3 _ (kQ l)
theorem zCY:∀(l:List Int)(h:l≠[]),l.Pairwise (·<=·)->∀x∈l,x<=l.getLast h
 |[y],_,_,x,hx=>by simp at hx;simp[hx]|y::z::l,_,hp,x,hx=>by
  rw[List.getLast_cons (by simp)];have h2:=List.pairwise_cons.1 hp;rcases List.mem_cons.1 hx with rfl|hx;·exact h2.1 _ (List.getLast_mem _)
  ·exact zCY (z::l) (by simp) h2.2 x hx
def nF(t:Tm)(f n:Int):Bool:=zJ t&&decide (u4 t 0<=f)&&(iL t 6 7).all λx=>decide (x<n)
theorem nG(t:Tm)(f n:Int)(ho:t.Ok):zC (λq=>S8 q t f n) (nF t f n):=by
 simp only[S8];refine(xM t ho).bind ?_;unfold nF;by_cases h:zJ t=true
 ·have hs:=zN h;have hlen:=bZ t 6 7;refine zC.ifT h ((zCV t 0 hs.2.2 (by omega) (by omega)).bind ?_);rw[h];by_cases h2:u4 t 0>f;·exact zC.ifT (by simpa using h2) (zC.ret.eq (by simp;omega))
  ·refine zC.ifF (by simpa using h2) ((zFs t ho).bind ?_);have h2':decide (u4 t 0<=f)=true:=by simp;omega
   rw[h2'];unfold m7;rw[if_pos h];have hr:=R6 (iL t 6 7);by_cases h3:wT (iL t 6 7)=[]
   ·refine zC.ifT (by rw[h3];rfl) (zC.ret.eq ?_);symm;simp only[Bool.true_and,List.all_eq_true];intro x hx;rw[<-aA,h3]at hx;cases hx
   ·have hpos:0<(wT (iL t 6 7)).length:=List.length_pos_iff.2 h3;refine zC.ifF (by simp;omega) (zC.pure (a:=(wT (iL t 6 7)).getLast h3) ?_ (zC.ret.eq ?_))
    ·rw[zS (by omega) (by omega)];unfold zM;rw[if_pos (by omega),List.getLast_eq_getElem,show((wT (iL t 6 7)).length-1:Int).toNat=(wT (iL t 6 7)).length-1 by omega];exact List.getElem?_eq_getElem _
    ·have hm:=zCY _ h3 (zCX _);rw[Bool.eq_iff_iff];simp only[decide_eq_true_eq,Bool.true_and,List.all_eq_true];constructor
     ·intro h4 x hx;have:=hm x ((aA x _).2 hx);omega
     ·intro h4;exact h4 _ ((aA _ _).1 (List.getLast_mem h3))
 ·exact zC.ifF (by simpa using h) (zC.ret.eq (by simp[h]))
def uN:Nat->zZ->Int->Int->zZ->Option zZ|0,_,_,_,_=>none|f+1,e,g,m,d=>if decide (g<m)then nS e.length m>>=λx2=>zM d (x2:Int)>>=λx4=>nS e.length g>>=λx6=>zM d (x6:Int)>>=λx8=>eW d x6 x4>>=λx10=>eW x10 x2 x8>>=λx12=>uN f e (yI (g+1)) (yI (m-1)) x12 else some d
def nH(f:Nat)(e:zZ):Option zZ:=uN f e 0 (yI ((e.length:Int)-1)) e
theorem zCZ:∀f:Nat,∀e g m d,Lz (uN f e g m d) 1 f167 (pt 53 f167) (λj=>sp j 28 0 [(0,.ms 0 0 e.length e.length 3),(2,ai g),(3,ai m)]) ⟨[(0,.row (zI zA d))],1,[],0,[]⟩ (λ_=>.tup []) (λr=>[.row (zI zA r)]) 0 [.blk 0]:=xC (λ_ _ _ _=>lN) λf ih=>λe g m d=>lw λ_=>rB 0 (rH λ_ h3=>rS (oA 0 (zHx (b:=0) (c:=List.length e) (z:=3) h3))<|rH λx4 h5=>rS (oG (a:=(.agg [ai x4.k,ai x4.n,zB zA x4.sub .no])) 0 (ldE uY h5 (true,3) (val:=.agg [ai x4.k,ai x4.n,zB zA x4.sub .no]) (by rw[xF];rfl)))<|rH λ_ h7=>rS (oA 0 (zHx (b:=0) (c:=List.length e) (z:=3) h7))<|rH λx8 h9=>rS (oG (a:=(.agg [ai x8.k,ai x8.n,zB zA x8.sub .no])) 0 (ldE uY h9 (true,3) (val:=.agg [ai x8.k,ai x8.n,zB zA x8.sub .no]) (by rw[xF];rfl)))<|rS (oA 0 (zHx (b:=0) (c:=List.length e) (z:=3) h7))<|rW (λh11=>oW 0 (wtE (x:=x4) (cs:=[ai x4.k,ai x4.n,zB zA x4.sub .no]) uY (by rw[xF];rfl) h11)) λ_=>rS (oA 0 (zHx (b:=0) (c:=List.length e) (z:=3) h3))<|rW (λh13=>oW 0 (wtE (x:=x8) (cs:=[ai x8.k,ai x8.n,zB zA x8.sub .no]) uY (by rw[xF];rfl) h13)) λ_=>lH 2 [] [0] [] [0,2,3] (ih _ _ _ _))<|lE 0
theorem T3{f e}:Cz (nH f e) 167 [.row (zI zA e)] [.ms 0 0 e.length e.length 3] (λ_=>.tup []) (λr=>[.row (zI zA r)]) 0:=fw func167<|fH 2 [] [0] [] [0,2,3] (zCZ _ _ _ _ _)
def vZ:Nat->Tm->zZ->Int->Int->zZ->Option ((Tm×zZ)⊕(zZ×Tm))|0,_,_,_,_,_=>none|f+1,d,a,c,e,b=>if c==5 then if(b.length:Int)==2 then if decide ((a.length:Int)>=8192)then some (Sum.inl (d,[]))else zM b 1>>=λx4=>yW 40 a [x4]>>=λl6=>zM b 0>>=λx8=>vZ f d l6 x8.k x8.n x8.sub else nH f a>>=λr10=>gfz a.length r10>>=λl12=>some (Sum.inr (l12,(Tm.mk c e b)))else nH f a>>=λr14=>gfz a.length r14>>=λl16=>some (Sum.inr (l16,(Tm.mk c e b)))
def cL(f:Nat)(d:Tm):Option ((Tm×zZ)⊕(zZ×Tm)):=vZ f d ([]:zZ) d.k d.n d.sub
def T4(j:Nat->Value)(d:Tm)(a:zZ)(c e:Int)(b:zZ):=sp j 35 0 [(1,.mp 0 0),(2,.mp 1 0),(4,.ms 2 0 a.length a.length 3),(5,.mp 3 0)]
def T5(d:Tm)(a:zZ)(c e:Int)(b:zZ):yM:=⟨[(0,.cells [ai d.k,ai d.n,zB zA d.sub .no]),(1,.cells [ai 0,ai 0,.ms 4 0 (List.length ([]:zZ)) (List.length ([]:zZ)) 3]),(2,.row (zI zA a)),(3,.cells [ai c,ai e,zB zA b .no]),(4,.row (zI zA ([]:zZ)))],5,[],0,[]⟩
abbrev T6(d:Tm)(r:Tm×zZ)(C:Cf):Prop:=C 102 [] [yJ d] (.tup [yJ r.1,.sl (zI zA r.2) r.2.length .no]) [] 0
abbrev T7(d:Tm)(r:zZ×Tm)(C:Cf):Prop:=C 102 [] [yJ d] (.tup [yJ r.2,.ms 0 0 r.1.length r.1.length 3]) [.row (zI zA r.1)] 0
theorem zLD:Qf 102 f102:=⟨func102,by kernel_rfl⟩
theorem zLE{d r}(h:T6 d r Ci):T6 d r Ct:=⟨h,⟨⟨tv,tv,⟨tv,dT _⟩,tv⟩,tv⟩,yZ,⟨⟨tv,tv,dT _,tv⟩,dT _,tv⟩,yZ⟩
theorem zLF{d r}(h:T7 d r Ci):T7 d r Ct:=⟨h,⟨⟨tv,tv,⟨tv,dT _⟩,tv⟩,tv⟩,yZ,⟨⟨tv,tv,dT _,tv⟩,(lz rfl),tv⟩,(xA (dT _) yZ)⟩
theorem aB:∀f:Nat,(∀d a c e b r,vZ f d a c e b=some r->(∀j,Dl prog 0 (pt 4069 f102) (T4 j d a c e b) (T5 d a c e b) (xV prog 0 ((match(generalizing:=false)r with|Sum.inl x=>kN prog 0 f102 (.tup [yJ x.1,.sl (zI zA x.2) x.2.length .no]) [] 0|Sum.inr x=>kN prog 0 f102 (.tup [yJ x.2,.ms 0 0 x.1.length x.1.length 3]) [.row (zI zA x.1)] 0)) [.blk 0,.seq (pt 255 f102)]))):=by intro f;induction f with|zero=>exactλ_ _ _ _ _ _ h=>nn h|succ f ih=>
 intro d a c e b r h;rw[vZ]at h;rcases spl h with⟨h1,h⟩|⟨h1,h⟩;have k:=oB 1 h1 o0;rcases spl h with⟨h2,h⟩|⟨h2,h⟩;have k:=oB 2 h2 k;rcases spl h with⟨h3,h⟩|⟨h3,h⟩;obtain rfl:=sj h;exactλj=>olF 2 [] (oD (dT ([]:zZ))<|oD (dT d.sub)<|oB 1 h3 k);obtain⟨x4,h5,h⟩:=wH h;obtain⟨l6,h7,h⟩:=wH h;obtain⟨x8,h9,h⟩:=wH h;exactλj=>olH 2 [] [0,1,5,3,4] [] [1,2,4,5] (oD (dT ([]:zZ))<|oD (dT x8.sub)<|oD (dT l6)<|oD (dT d.sub)<|oA 1 (yY (o:=.no) h9)<|oM 0 (zVv h7 (by simp))<|oS 1 (yR xF [x4])<|oA 1 (yY (o:=.no) h5)<|oB 1 h3 k) (ih _ _ _ _ _ _ h);obtain⟨r10,h11,h⟩:=wH h;obtain⟨l12,h13,h⟩:=wH h;obtain⟨h13a,h13b⟩:=iM h13;obtain rfl:=sj h;obtain rfl:=h13a.symm;try dsimp only
 rw[<-h13b];exactλj=>olF 2 [2] (oD (dT b)<|oD (dT r10)<|oC 0 [2] (T3 _ h11)<|oB 2 h2 k);obtain⟨r14,h15,h⟩:=wH h;obtain⟨l16,h17,h⟩:=wH h;obtain⟨h17a,h17b⟩:=iM h17;obtain rfl:=sj h;obtain rfl:=h17a.symm;try dsimp only
 rw[<-h17b];exactλj=>olF 2 [2] (oD (dT b)<|oD (dT r14)<|oC 0 [2] (T3 _ h15)<|oB 1 h1 o0)
theorem zON{f d r}(h:cL f d=some r):(match(generalizing:=false)r with|Sum.inl x=>T6 d x Ct|Sum.inr x=>T7 d x Ct):=by unfold cL at h;rcases r with y0|y1;exact zLE (tH zLD 2 [(none,4,4099),(some 1,2,4099)] [0,1,3,2,4] [] [1,2,4,5] (oD (dT ([]:zZ))<|oD (dT d.sub)<|oD (dT ([]:zZ))<|oD (dT d.sub) o0) (aB _ _ _ _ _ _ _ h));exact zLF (tH zLD 2 [(none,4,4099),(some 1,2,4099)] [0,1,3,2,4] [] [1,2,4,5] (oD (dT ([]:zZ))<|oD (dT d.sub)<|oD (dT ([]:zZ))<|oD (dT d.sub) o0) (aB _ _ _ _ _ _ _ h))
theorem zOO{f d r}(h:cL f d=some r):(match(generalizing:=false)r with|Sum.inl x=>CT prog 102 [] [yJ d] (.tup [yJ x.1,.sl (zI zA x.2) x.2.length .no]) [] 0|Sum.inr x=>CT prog 102 [] [yJ d] (.tup [yJ x.2,.sl (zI zA x.1) x.1.length .no]) [] 0):=by
 have k:=zON h;rcases r with y0|y1;·exact k
 ·exact CT.freeze (H1:=[]) (cs:=zI zA y1.1) (res':=(.tup [yJ y1.2,.sl (zI zA y1.1) y1.1.length .no])) k (Nat.le_of_ble_eq_true rfl) yZ (dT _) ⟨⟨trivial,trivial,dT _,tv⟩,(.inl ⟨rfl,rfl⟩),tv⟩ (by rfl) rfl
theorem zSD{f d}:Cz (cL f d) 102 [] [yJ d] (Sum.elim (λx=>.tup [yJ x.1,.sl (zI zA x.2) x.2.length .no]) (λx=>.tup [yJ x.2,.sl (zI zA x.1) x.1.length .no])) (Sum.elim (λ_=>[]) (λ_=>[])) 0:=λr h=>by have k:=zOO h;rcases r with _|_<;>exact k
def aC(b:Nat)(a:Tm):Option (Tm×zZ):=cL b a>>=λx=>some (Sum.elim id (λy=>(y.2,y.1)) x)
theorem zVl{b:Nat}{a:Tm}{r:Tm×zZ}(h:aC b a=some r):CT prog 102 [] [yJ a] (.tup [yJ r.1,.sl (zI zA r.2) r.2.length .no]) [] 0:=by obtain⟨x,h1,h⟩:=wH h;obtain rfl:=sj h;rcases x with y|y<;>exact zSD _ h1
theorem zFr{b:Nat}{a:Tm}:Cz (aC b a) 102 [] [yJ a] (λr=>.tup [yJ r.1,.sl (zI zA r.2) r.2.length .no]) (λ_=>[]) 0:=λ_ h=>zVl h
def zDz(d:Nat)(a b:Int)(c:zZ):Option (Tm):=some (Tm.mk a b c)
theorem zFq{d a b c}:Cz (zDz d a b c) 188 [] [ai a,ai b,zB zA c .no] (λr=>yJ r) (λ_=>[]) 0:=fw func188<|fE 1
def lI(c:Nat)(a b:Tm):Option (Tm):=zDz c 5 0 [a,b]>>=λr1=>some r1
theorem oH{c a b}:Cz (lI c a b) 131 [] [yJ a,yJ b] (λr=>yJ r) (λ_=>[]) 0:=fw func131<|rS (oS 2 (yR xF [a,b]))<|rC 0 [] zFq λ_=>fE 1
mutual def zIW:Nat->Tm->Option (Tm)|0,_=>none|d+1,b=>gS d b 0 []def gS:Nat->Tm->Int->zZ->Option (Tm)|0,_,_,_=>none|d+1,b,c,a=>if decide (c<(b.sub.length:Int))then zM b.sub c>>=λx2=>zIW d x2>>=λr4=>yW 40 a [r4]>>=λl6=>gS d b (yI (c+1)) l6 else some (Tm.mk b.k b.n a)end
theorem zDy:∀d:Nat,(∀b,Cz (zIW d b) 162 [] [yJ b] (λr=>yJ r) (λ_=>[]) 0)/\(∀b c a,Lz (gS d b c a) 0 f162 (pt 4021 f162) (λj=>sp j 27 0 [(2,.mp 0 0),(3,.mp 1 0),(12,zB zA b.sub .no),(13,ai (b.sub.length:Int)),(14,ai c)]) ⟨[(0,.cells [ai 0,ai 0,zB zA ([]:zZ) .nl]),(1,.cells [ai b.k,ai b.n,zB zA a (.st 0 3)])],2,[0],1,[]⟩ (λr=>yJ r) (λ_=>[]) 0 [.blk 0,.seq (pt 63 f162)]):=xC ⟨λ_=>cN,λ_ _ _=>lN⟩ λd ih=>⟨λb=>fw func162<|fH 5 [(some 2,2,3)] [1,2] [0] [2,3,12,13,14] (ih.2 _ _ _),λb c a=>lw λ_=>rB 0 (rA 0 (yY (o:=.no)) λ_=>rS (u6 2)<|rC 1 [] (ih.1 _) λr4=>rS (oS 0 (yR xF [r4]))<|rW (λh7=>oP 0 (xS h7 (by simp))) λ_=>lH 2 [] [0,1] [1] [2,3,12,13,14] (ih.2 _ _ _))<|lE 2⟩
theorem zXD{d b}:Cz (zIW d b) 162 [] [yJ b] (λr=>yJ r) (λ_=>[]) 0:=(zDy _).1 _
def gU:Nat->zZ->Int->Int->Int->zZ->Option (Tm)|0,_,_,_,_,_=>none|e+1,d,f,a,b,c=>if decide (f<(d.length:Int))then zM d f>>=λx2=>lI e (Tm.mk a b c) x2>>=λr4=>gU e d (yI (f+1)) r4.k r4.n r4.sub else some (Tm.mk a b c)
def oI(e:Nat)(g:Tm)(d:zZ):Option (Tm):=gU e d 0 g.k g.n g.sub
theorem zOP:∀e:Nat,∀d f a b c,Lz (gU e d f a b c) 0 f189 (pt 949 f189) (λj=>sp j 18 0 [(2,.mp 0 0),(4,.mp 1 0),(7,zB zA d .no),(8,ai (d.length:Int)),(9,ai f)]) ⟨[(0,.cells [ai a,ai b,zB zA c .no]),(1,.cells [ai 0,ai 0,zB zA ([]:zZ) .nl])],2,[],0,[]⟩ (λr=>yJ r) (λ_=>[]) 0 [.blk 0,.seq (pt 15 f189)]:=xC (λ_ _ _ _ _=>lN) λe ih=>λd f a b c=>lw λ_=>rB 0 (rA 0 (yY (o:=.no)) λ_=>rC 4 [] oH λ_=>lH 2 [] [0,1] [] [2,4,7,8,9] (ih _ _ _ _ _))<|lE 2
theorem pJ{e g d}:Cz (oI e g d) 189 [] [yJ g,zB zA d .no] (λr=>yJ r) (λ_=>[]) 0:=fw func189<|fH 1 [] [0,1] [] [2,4,7,8,9] (zOP _ _ _ _ _ _)
def e96(b:Nat)(a:Tm):Option (Tm):=rV b a>>=λr1=>if r1 then zIW b a>>=λr4=>some r4 else some (Tm.mk 0 0 [])
theorem c96{b a}:Cz (e96 b a) 96 [] [yJ a] (λr=>yJ r) (λ_=>[]) 0:=fw func96<|rK 1 [] qU (λ_=>rC 2 [] zXD λ_=>fE 1) λ_=>fE 2
theorem vT(t:Tm):Tm.mk t.k t.n t.sub=t:=by cases t;rfl
theorem T8{α:Type}{l:List α}{v:Nat}{x:α}{r:List α}(h:l.drop v=x::r):l.take (v+1)=l.take v++[x]:=by
 have:l[v]?=some x:=by have:=congrArg (λz=>z[0]?) h;simpa using this
 rw[List.take_add_one,this];rfl
mutual theorem m8:∀(t:Tm),xW t=true->zC (λq=>zIW q t) t|.mk k n l,hg=>by refine zC.succ ?_;simp only[zIW];have hh:=wX hg;exact T9 l (.mk k n l) 0 [] rfl hh.2 (by have:=(kT hh.1).2.2.2.2;exact this) rfl theorem T9:∀(l:List Tm)(p:Tm)(v:Nat)(acc:List Tm),p.sub.drop v=l->pU l=true->p.sub.length<=2->acc=p.sub.take v->zC (λq=>gS q p (v:Int) acc) p|[],p,v,acc,hd,hg,hl,ha=>by refine zC.succ ?_;simp only[gS];refine zC.ifF (yF hd) (zC.ret.eq ?_);have:p.sub.length<=v:=List.drop_eq_nil_iff.1 hd;rw[ha,List.take_of_length_le this,vT]|t::l,p,v,acc,hd,hg,hl,ha=>by have hlt:=yK hd;have hc:=wU hg;refine zC.succ ?_;simp only[gS];refine zC.ifT (yD hd) (zC.pure (yA hd) ((m8 t hc.1).bind (zC.pure (zW (by rw[ha];simp<;>omega)) ?_)));rw[zV v (by omega)];exact T9 l p (v+1) _ (zU hd) hc.2 hl (by rw[ha,T8 hd])end
def lJ(t:Tm):Tm:=if zJ t=true then t else .mk 0 0 []
theorem oJ(t:Tm)(ho:t.Ok):zC (λq=>e96 q t) (lJ t):=by
 simp only[e96];refine(xM t ho).bind ?_;unfold lJ;by_cases h:zJ t=true;·rw[if_pos h];exact zC.ifT h ((m8 t (zN h).2.2).bind zC.ret)
 ·rw[if_neg h];exact zC.ifF (by simpa using h) zC.ret
def yN:Tm->Tm|.mk k n [a,b]=>if k=5 then yN a else .mk k n [a,b]|x=>x
def xI:Tm->List Tm|.mk k _ [a,b]=>if k=5 then xI a++[b]else[]|_=>[]
theorem zOR{l:List Tm}(h:l.length=2):∃a b,l=[a,b]:=by rcases l with _|⟨a,_|⟨b,_|⟨c,l⟩⟩⟩<;>simp at h;exact⟨a,b,rfl⟩
theorem zAY(n:Int)(a b:Tm):yN (.mk 5 n [a,b])=yN a:=by rw[yN];simp
theorem M9(n:Int)(a b:Tm):xI (.mk 5 n [a,b])=xI a++[b]:=by rw[xI];simp
theorem N0{t:Tm}(h:t.k≠5):yN t=t:=by
 unfold yN;split;·exact if_neg h
 ·rfl
theorem aD{t:Tm}(h:t.k≠5):xI t=[]:=by
 unfold xI;split;·exact if_neg h
 ·rfl
theorem N1{P:Tm->Prop}(h0:∀t,xW t=true->t.k≠5->P t)(h1:∀n a b,xW (.mk 5 n [a,b])=true->xW a=true->xW b=true->P a->P (.mk 5 n [a,b])):∀t:Tm,xW t=true->P t:=by intro t;induction hn:t.nodes using Nat.strongRecOn generalizing t with|ind m ih=>
 intro hg;by_cases h:t.k=5
 ·obtain⟨k,n,l⟩:=t;have hh:=wX hg;have hs:=sR hh.1;simp only[Tm.k]at h;subst h;obtain⟨a,b,rfl⟩:=zOR (hs.2.2.2.2.2.1 (.inr (.inr rfl))).1;have hc:=wU hh.2;have hc2:=wU hc.2;refine h1 n a b hg hc.1 hc2.1 (ih a.nodes ?_ a rfl hc.1);rw[Tm.nodes,yU]at hn;omega
 ·exact h0 t hg h
theorem zOS(l:List Tm)(hl:l.length<=1048576):∀(m i:Nat)(acc:List Tm),2*i+m=l.length->acc.length=l.length->(∀p,p<l.length->acc[p]?=if p<i\/l.length<p+i+1 then l[l.length-1-p]? else l[p]?)->zC (λq=>uN q l (i:Int) ((l.length:Int)-1-i) acc) l.reverse:=by
 have fin:∀(i:Nat)(acc:List Tm),(∀p,p<l.length->p<i\/l.length<p+i+1\/l.length=2*p+1)->acc.length=l.length->(∀p,p<l.length->acc[p]?=if p<i\/l.length<p+i+1 then l[l.length-1-p]? else l[p]?)->acc=l.reverse:=λi acc h0 h1 h2=>by
  refine List.ext_getElem? λp=>?_;by_cases hp:p<l.length
  ·rw[h2 p hp,List.getElem?_reverse hp];by_cases h:p<i\/l.length<p+i+1;·rw[if_pos h]
   ·rw[if_neg h];have:=h0 p hp;rw[show l.length-1-p=p by omega]
  ·rw[List.getElem?_eq_none (by omega),List.getElem?_eq_none (by simp;omega)]
 intro m;induction m using Nat.strongRecOn with|ind m ih=>
  intro i acc hm ha hI;refine zC.succ ?_;simp only[uN];by_cases hm2:m<2;·exact zC.ifF (decide_eq_false (by omega)) (zC.ret.eq (fin i acc (λp hp=>by omega) ha hI))
  ·have g1:nS l.length ((l.length:Int)-1-i)=some (l.length-1-i):=by unfold nS;rw[if_pos (by omega)];congr 1;omega
   have g2:nS l.length (i:Int)=some i:=by unfold nS;rw[if_pos (by omega)];congr 1
   obtain⟨x,hx⟩:∃x,zM acc ((l.length-1-i:Nat):Int)=some x:=⟨acc[l.length-1-i]'(by omega),by unfold zM;rw[if_pos (by omega)];simp⟩;obtain⟨y,hy⟩:∃y,zM acc (i:Int)=some y:=⟨acc[i]'(by omega),by unfold zM;rw[if_pos (by omega)];simp⟩;have ex:acc[l.length-1-i]?=some x:=by have:=(lC hx).2.2;simpa using this
   have ey:acc[i]?=some y:=by have:=(lC hy).2.2;simpa using this
   rw[hI _ (by omega),if_neg (by omega)]at ex ey;refine zC.ifT (decide_eq_true (by omega)) (zC.pure g1 (zC.pure hx (zC.pure g2 (zC.pure hy (zC.pure (a:=acc.set i x) (by unfold eW;rw[if_pos (by omega)]) (zC.pure (a:=(acc.set i x).set (l.length-1-i) y) (by unfold eW;rw[if_pos (by simp;omega)]) ?_))))));rw[zV i (by omega),zS (by omega) (by omega),show(l.length:Int)-1-i-1=(l.length:Int)-1-((i+1:Nat):Int)by omega];refine ih (m-2) (by omega) (i+1) _ (by omega) (by simp[ha]) λp hp=>?_;rw[List.getElem?_set,List.getElem?_set];by_cases h1:l.length-1-i=p;·rw[if_pos h1,if_pos (by simp;omega),if_pos (by omega),show l.length-1-p=i by omega,ey]
   ·rw[if_neg h1];by_cases h2:i=p;·rw[if_pos h2,if_pos (by omega),if_pos (by omega),show l.length-1-p=l.length-1-i by omega,ex]
    ·rw[if_neg h2,hI p hp];by_cases h3:p<i\/l.length<p+i+1;·rw[if_pos h3,if_pos (by omega)]
     ·rw[if_neg h3,if_neg (by omega)]
theorem zLG(l:List Tm)(hl:l.length<=1048576):zC (λq=>nH q l) l.reverse:=by
 simp only[nH];rw[zS (by omega) (by omega)];have:=zOS l hl l.length 0 l (by omega) rfl λp hp=>by rw[if_neg (by omega)]
 simpa using this
theorem zIX(p0:Tm):∀t:Tm,xW t=true->∀l:List Tm,l.length+t.nodes<=8192->zC (λq=>vZ q p0 l t.k t.n t.sub) (.inr (xI t++l.reverse,yN t)):=by
 refine N1 ?_ ?_
 ·intro t hg hk l hl;rw[N0 hk,aD hk];refine zC.succ ?_;simp only[vZ];refine zC.ifF (by simpa using hk) ((zLG l (by omega)).bind (zC.pure (a:=l.reverse) (by unfold gfz;rw[if_pos (by simp)]) (zC.ret.eq ?_)));rw[vT];simp
 ·intro n a b hg ha hb ih l hl;rw[Tm.nodes,yU,yU,yU]at hl;rw[zAY,M9];refine zC.succ ?_;simp only[vZ];refine zC.ifT rfl (zC.ifT rfl (zC.ifF (decide_eq_false (by omega)) (zC.pure (a:=b) rfl (zC.pure (zW (by simp;omega)) (zC.pure (a:=a) rfl ((ih (l++[b]) (by simp;omega)).eq ?_))))));simp
theorem lK(t:Tm)(hs:zJ t=true):zC (λq=>aC q t) (yN t,xI t):=by have h:=zN hs;simp only[aC,cL];refine(zIX t t h.2.2 [] (by simpa using h.1)).bind (zC.ret.eq ?_);simp
theorem zAZ:∀t:Tm,xW t=true->xW (yN t)=true/\(yN t).k≠5/\(yN t).nodes<=t.nodes/\(yN t).high<=t.high/\∀x∈xI t,xW x=true/\x.nodes<t.nodes/\x.high<t.high:=by
 refine N1 ?_ ?_
 ·intro t hg hk;rw[N0 hk,aD hk];exact⟨hg,hk,Nat.le_refl _,Nat.le_refl _,λx hx=>by cases hx⟩
 ·intro n a b hg ha hb ih;rw[zAY,M9];simp only[Tm.nodes,yU,Tm.high,qL];refine⟨ih.1,ih.2.1,by omega,by omega,λx hx=>?_⟩;rcases List.mem_append.1 hx with hx|hx;·have:=ih.2.2.2.2 x hx;exact⟨this.1,by omega,by omega⟩
  ·simp at hx;subst hx;exact⟨hb,by omega,by omega⟩
theorem nI{t:Tm}(h1:t.nodes<=8192)(h2:t.high<=128)(h3:xW t=true):zJ t=true:=by unfold zJ;simp[h1,h2,h3]
theorem wC{t x:Tm}(h:zJ t=true)(hx:x∈xI t):zJ x=true:=by have hs:=zN h;have:=(zAZ t hs.2.2).2.2.2.2 x hx;exact nI (by omega) (by omega) this.1
theorem sS{t:Tm}(h:zJ t=true):zJ (yN t)=true:=by have hs:=zN h;have:=zAZ t hs.2.2;exact nI (by omega) (by omega) this.1
theorem qV:∀t:Tm,xW t=true->(xI t).length<t.nodes:=by
 refine N1 ?_ ?_;·intro t hg hk;rw[aD hk];have:=wJ t;simp;omega
 ·intro n a b hg ha hb ih;rw[M9,Tm.nodes,yU,yU,yU];simp;omega
def mQ(f:Tm):List Tm->Tm|[]=>f|a::l=>mQ (.mk 5 0 [f,a]) l
theorem rX(f a:Tm):zC (λq=>lI q f a) (.mk 5 0 [f,a]):=zC.mk λ_=>rfl
theorem m9:∀(l p:List Tm)(v:Nat)(f:Tm),p.drop v=l->p.length<9223372036854775808->zC (λq=>gU q p (v:Int) f.k f.n f.sub) (mQ f l)|[],p,v,f,hd,hl=>by refine zC.succ ?_;simp only[gU];exact zC.ifF (yF hd) (zC.ret.eq (by rw[vT,mQ]))|a::l,p,v,f,hd,hl=>by have hlt:=yK hd;refine zC.succ ?_;simp only[gU];rw[vT];refine zC.ifT (yD hd) (zC.pure (yA hd) ((rX f a).bind ?_));rw[zV v (by omega),mQ];exact m9 l p (v+1) (.mk 5 0 [f,a]) (zU hd) hl
theorem wS(f:Tm)(l:List Tm)(h:l.length<9223372036854775808):zC (λq=>oI q f l) (mQ f l):=by simp only[oI];exact m9 l l 0 f rfl h
theorem uH:∀(l:List Tm)(f:Tm),f.Ok->(∀x∈l,x.Ok)->(mQ f l).Ok|[],f,hf,_=>by rw[mQ];exact hf|a::l,f,hf,hl=>by rw[mQ];refine uH l _ ?_ λx hx=>hl x (by simp[hx]);rw[Tm.Ok,gL,gL,gL];exact⟨by simp,hf,hl a (by simp),trivial⟩
def L6(b:Nat)(a:Int):Option (Tm):=zDz b 2 a []>>=λr1=>some r1
theorem zBz{b a}:Cz (L6 b a) 129 [] [ai a] (λr=>yJ r) (λ_=>[]) 0:=fw func129<|rC 0 [] zFq λ_=>fE 1
def jQ(b:Nat)(a:Int):Option (Tm):=zDz b 1 a []>>=λr1=>some r1
theorem lL{b a}:Cz (jQ b a) 132 [] [ai a] (λr=>yJ r) (λ_=>[]) 0:=fw func132<|rC 0 [] zFq λ_=>fE 1
def zLH(b:Nat)(a:Int):Option (Bool):=if decide (a>=0)then some (decide (a<=1048576))else some false
theorem zVk{b a}:Cz (zLH b a) 318 [] [ai a] (λr=>ab r) (λ_=>[]) 0:=fw func318<|rB 0 (fE 1)<|fE 0
def U0(d:Nat)(a b c:Int):Option (Int):=if decide (a<b)then some a else some (yI (a+c))
theorem zLI{d a b c}:Cz (U0 d a b c) 320 [.cells [ai b],.cells [ai c]] [ai a,.mp 0 0,.mp 1 0] (λr=>ai r) (λ_=>[.cells [ai b],.cells [ai c]]) 0:=fw func320<|rB 1 (fE 0)<|fE 2
mutual def pK:Nat->Tm->Int->Int->Int->Option (Tm)|0,_,_,_,_=>none|g+1,b,e,c,d=>if b.k==1 then if decide (b.n>=e)then U0 g (yI (b.n-e)) c d>>=λr3=>jQ g (yI (r3+e))>>=λr5=>some r5 else jQ g b.n>>=λr7=>some r7 else uA g b e c d 0 []def uA:Nat->Tm->Int->Int->Int->Int->zZ->Option (Tm)
 |0,_,_,_,_,_,_=>none|g+1,b,e,c,d,f,a=>if decide (f<(b.sub.length:Int))then zM b.sub f>>=λx10=>if f==1 then if b.k !=5 then pK g x10 (yI (e+1)) c d>>=λr14=>yW 40 a [r14]>>=λl16=>uA g b e c d (yI (f+1)) l16 else pK g x10 e c d>>=λr18=>yW 40 a [r18]>>=λl20=>uA g b e c d (yI (f+1)) l20 else pK g x10 e c d>>=λr22=>yW 40 a [r22]>>=λl24=>uA g b e c d (yI (f+1)) l24 else some (Tm.mk b.k b.n a)end
theorem eX:∀g:Nat,(∀b e c d,Cz (pK g b e c d) 319 [.cells [ai c],.cells [ai d]] [yJ b,ai e,.clo 320 [] [.mp 0 0,.mp 1 0]] (λr=>yJ r) (λ_=>[.cells [ai c],.cells [ai d]]) 0)/\(∀b e c d f a,Lz (uA g b e c d f a) 2 f319 (pt 16309 f319) (λj=>sp j 64 0 [(1,ai e),(2,.clo 320 [] [.mp 0 0,.mp 1 0]),(3,.mp 2 0),(6,.mp 3 0),(7,.mp 4 0),(36,zB zA b.sub .no),(37,ai (b.sub.length:Int)),(38,ai f)]) ⟨[(0,.cells [ai c]),(1,.cells [ai d]),(2,.cells [ai b.k,ai b.n,zB zA b.sub .no]),(3,.cells [ai 0,ai 0,zB zA ([]:zZ) .nl]),(4,.cells [ai b.k,ai b.n,zB zA a (.st 0 3)])],5,[0],1,[]⟩ (λr=>yJ r) (λ_=>[.cells [ai c],.cells [ai d]]) 0 [.blk 0,.seq (pt 255 f319)]):=xC ⟨λ_ _ _ _=>cN,λ_ _ _ _ _ _=>lN⟩ λg ih=>⟨λb e c d=>fw func319<|rB 1 (rB 1 (rC 2 [0,1] zLI λ_=>rC 1 [] lL λ_=>fE 1)<|rC 1 [] lL λ_=>fE 1)<|fH 5 [(some 4,2,3)] [0,1,2,3,4] [0] [1,2,3,6,7,36,37,38] (ih.2 _ _ _ _ _ _),λb e c d f a=>lw λ_=>rB 0 (rA 0 (yY (o:=.no)) λ_=>rB 2 (rB 1 (rS (u6 1)<|rC 1 [0,1] (ih.1 _ _ _ _) λr14=>rS (oS 0 (yR xF [r14]))<|rW (λh17=>oP 0 (xS h17 (by simp))) λ_=>lH 2 [] [0,1,2,3,4] [1] [1,2,3,6,7,36,37,38] (ih.2 _ _ _ _ _ _))<|rS (u6 0)<|rC 1 [0,1] (ih.1 _ _ _ _) λr18=>rS (oS 0 (yR xF [r18]))<|rW (λh21=>oP 0 (xS h21 (by simp))) λ_=>lH 2 [] [0,1,2,3,4] [1] [1,2,3,6,7,36,37,38] (ih.2 _ _ _ _ _ _))<|rS (u6 0)<|rC 1 [0,1] (ih.1 _ _ _ _) λr22=>rS (oS 0 (yR xF [r22]))<|rW (λh25=>oP 0 (xS h25 (by simp))) λ_=>lH 2 [] [0,1,2,3,4] [1] [1,2,3,6,7,36,37,38] (ih.2 _ _ _ _ _ _))<|lE 2⟩
theorem zLJ{g b e c d}:Cz (pK g b e c d) 319 [.cells [ai c],.cells [ai d]] [yJ b,ai e,.clo 320 [] [.mp 0 0,.mp 1 0]] (λr=>yJ r) (λ_=>[.cells [ai c],.cells [ai d]]) 0:=(eX _).1 _ _ _ _
def zLK(a:Nat)(b:Tm)(c d:Int):Option (Tm×Int):=rV a b>>=λr1=>if r1 then zLH a c>>=λr4=>if r4 then zLH a d>>=λr7=>if r7 then pK a b 0 d c>>=λr10=>rV a r10>>=λr12=>if r12 then some (r10,0)else some ((Tm.mk 0 0 []),2)else some ((Tm.mk 0 0 []),5)else some ((Tm.mk 0 0 []),5)else some ((Tm.mk 0 0 []),5)
theorem zVj{a b c d}:Cz (zLK a b c d) 294 [] [yJ b,ai c,ai d] (λr=>.tup [yJ r.1,ai r.2]) (λ_=>[]) 0:=fw func294<|rK 1 [] qU (λ_=>rK 2 [] zVk (λ_=>rK 2 [] zVk (λ_=>rC 2 [2,1] zLJ λ_=>rK 2 [] qU (λ_=>fE 3) λ_=>fE 2) λ_=>fE 2) λ_=>fE 2) λ_=>fE 2
def zDx(c:Nat)(a:Tm)(b:Int):Option (Tm×Int):=zLK c a b 0>>=λr1=>some (r1.1,r1.2)
theorem zLL{c a b}:Cz (zDx c a b) 252 [] [yJ a,ai b] (λr=>.tup [yJ r.1,ai r.2]) (λ_=>[]) 0:=fw func252<|rC 1 [] zVj λ_=>fE 3
def tU(k:Int)(i:Nat)(b:Int):Int:=if i=1/\k≠5 then b+1 else b
mutual def U1:Tm->Int->Int->Int->Tm|.mk kd n l,b,c,k=>if kd=1 then .mk 1 (if b<=n then(if n-b<c then n-b else n-b+k)+b else n) []else .mk kd n (lfL l kd 0 b c k)def lfL:List Tm->Int->Nat->Int->Int->Int->List Tm|[],_,_,_,_,_=>[]|t::l,kd,i,b,c,k=>U1 t (tU kd i b) c k::lfL l kd (i+1) b c k end
theorem zHn:∀(l:List Tm)(kd:Int)(i:Nat)(b c k:Int),(lfL l kd i b c k).length=l.length|[],_,_,_,_,_=>by rw[lfL]|t::l,kd,i,b,c,k=>by rw[lfL];exact congrArg (·+1) (zHn l kd (i+1) b c k)
theorem tY(n:Int):zC (λq=>jQ q n) (.mk 1 n []):=zC.mk λ_=>rfl
theorem nZ(n:Int):zC (λq=>L6 q n) (.mk 2 n []):=zC.mk λ_=>rfl
mutual theorem N2:∀(t:Tm)(b c k:Int),xW t=true->0<=b->b+t.high<=1152921504606846976->0<=c->c<=1048576->0<=k->k<=1048576->zC (λq=>pK q t b c k) (U1 t b c k)
 |.mk kd n l,b,c,k,hg,hb,hb2,hc,hc2,hk,hk2=>by
  refine zC.succ ?_;simp only[pK];have hh:=wX hg;have hn:=kT hh.1;rw[Tm.high]at hb2;rw[U1];by_cases h1:kd=1
  ·rw[if_pos h1];refine zC.ifT (by simpa[Tm.k]using h1) ?_;simp only[Tm.n];by_cases h2:n>=b
   ·refine zC.ifT (by simpa using h2) ?_;rw[if_pos h2,zS (x:=n-b) (by omega) (by omega)];refine zC.bind (a:=if n-b<c then n-b else n-b+k) ?_ ?_
    ·refine zC.mk λq=>?_;unfold U0;by_cases h3:n-b<c;·simp[h3]
     ·simp[h3];exact zS (by omega) (by omega)
    ·rw[zS (by split<;>omega) (by split<;>omega)];exact(tY _).bind zC.ret
   ·refine zC.ifF (by simpa using h2) ?_;rw[if_neg h2];exact(tY _).bind zC.ret
  ·rw[if_neg h1];refine zC.ifF (by simpa[Tm.k]using h1) ?_;exact zDw l (.mk kd n l) 0 b c k [] rfl hh.2 (by have:=hn.2.2.2.2;exact this) hb (by omega) hc hc2 hk hk2 (by simp)theorem zDw:∀(l:List Tm)(p:Tm)(v:Nat)(b c k:Int)(acc:List Tm),p.sub.drop v=l->pU l=true->p.sub.length<=2->0<=b->b+1+qL l<=1152921504606846976->0<=c->c<=1048576->0<=k->k<=1048576->acc.length<=v->zC (λq=>uA q p b c k (v:Int) acc) (.mk p.k p.n (acc++lfL l p.k v b c k))
 |[],p,v,b,c,k,acc,hd,hg,hl,hb,hb2,hc,hc2,hk,hk2,ha=>by refine zC.succ ?_;simp only[uA];exact zC.ifF (yF hd) (zC.ret.eq (by rw[lfL];simp))|t::l,p,v,b,c,k,acc,hd,hg,hl,hb,hb2,hc,hc2,hk,hk2,ha=>by
  have hlt:=yK hd;have hgc:=wU hg;rw[qL]at hb2;refine zC.succ ?_;simp only[uA];refine zC.ifT (yD hd) (zC.pure (yA hd) ?_);have next:∀(x:Tm),zC (λq=>yW 40 acc [x]>>=λl16=>uA q p b c k (yI ((v:Int)+1)) l16) (.mk p.k p.n (acc++x::lfL l p.k (v+1) b c k)):=λx=>by refine zC.pure (zW (by simp<;>omega)) ?_;rw[zV v (by omega)];refine(zDw l p (v+1) b c k (acc++[x]) (zU hd) hgc.2 hl hb (by omega) hc hc2 hk hk2 (by simp<;>omega)).eq (by simp)
  rw[lfL];by_cases h1:v=1
  ·subst h1;refine zC.ifT rfl ?_;by_cases h5:p.k=5
   ·refine zC.ifF (by simp[h5]) ?_;have e:tU p.k 1 b=b:=by unfold tU;simp[h5]
    rw[e];exact(N2 t b c k hgc.1 hb (by omega) hc hc2 hk hk2).bind (next _)
   ·refine zC.ifT (by simp[h5]) ?_;have e:tU p.k 1 b=b+1:=by unfold tU;simp[h5]
    rw[e,zS (x:=b+1) (by omega) (by omega)];exact(N2 t (b+1) c k hgc.1 (by omega) (by omega) hc hc2 hk hk2).bind (next _)
  ·refine zC.ifF (by simp<;>omega) ?_;have e:tU p.k v b=b:=by unfold tU;simp[h1]
   rw[e];exact(N2 t b c k hgc.1 hb (by omega) hc hc2 hk hk2).bind (next _)end
mutual theorem zFo:∀(t:Tm)(b c k:Int),t.Ok->(U1 t b c k).Ok
 |.mk kd n l,b,c,k,h=>by
  rw[U1];split;·rw[Tm.Ok,gL];simp
  ·rw[Tm.Ok]at h⊢;rw[zHn];exact⟨h.1,zLM l kd 0 b c k h.2⟩theorem zLM:∀(l:List Tm)(kd:Int)(i:Nat)(b c k:Int),gL l->gL (lfL l kd i b c k)|[],_,_,_,_,_,_=>by rw[lfL,gL];trivial|t::l,kd,i,b,c,k,h=>by rw[gL]at h;rw[lfL,gL];exact⟨zFo t _ c k h.1,zLM l kd (i+1) b c k h.2⟩end
def dJ(n:Int):Bool:=decide (0<=n)&&decide (n<=1048576)
theorem zHm(n:Int):zC (λq=>zLH q n) (dJ n):=by
 refine zC.mk λq=>?_;unfold zLH dJ;by_cases h:n>=0;·rw[zSg (decide_eq_true h)];simp[show 0<=n from h]
 ·rw[zOb (decide_eq_false h)];simp[show¬0<=n from h]
def zT:Tm:=.mk 0 0 []
def vH(t:Tm)(k c:Int):Tm×Int:=if zJ t=true/\dJ k=true/\dJ c=true then(if zJ (U1 t 0 c k)=true then(U1 t 0 c k,0)else(zT,2))else(zT,5)
theorem zHl(t:Tm)(k c:Int)(ho:t.Ok):zC (λq=>zLK q t k c) (vH t k c):=by
 simp only[zLK];refine(xM t ho).bind ?_;unfold vH;by_cases h1:zJ t=true
 ·refine zC.ifT h1 ((zHm k).bind ?_);by_cases h2:dJ k=true
  ·refine zC.ifT h2 ((zHm c).bind ?_);by_cases h3:dJ c=true
   ·rw[if_pos ⟨h1,h2,h3⟩];have hs:=zN h1;have h2':=h2;have h3':=h3;unfold dJ at h2' h3';simp only[Bool.and_eq_true,decide_eq_true_eq]at h2' h3';refine zC.ifT h3 ((N2 t 0 c k hs.2.2 (by omega) (by omega) h3'.1 h3'.2 h2'.1 h2'.2).bind ((xM _ (zFo t 0 c k ho)).bind ?_));by_cases h4:zJ (U1 t 0 c k)=true;·rw[if_pos h4,if_pos h4];exact zC.ret
    ·rw[if_neg h4,if_neg h4];exact zC.ret
   ·rw[if_neg (λh=>h3 h.2.2)];exact zC.ifF (by simpa using h3) zC.ret
  ·rw[if_neg (λh=>h2 h.2.1)];exact zC.ifF (by simpa using h2) zC.ret
 ·rw[if_neg (λh=>h1 h.1)];exact zC.ifF (by simpa using h1) zC.ret
theorem iQ(t:Tm)(k c:Int)(ho:t.Ok):(vH t k c).1.Ok:=by
 have hz:zT.Ok:=by unfold zT;rw[Tm.Ok,gL];simp
 unfold vH;split
 ·split;·exact zFo t 0 c k ho
  ·exact hz
 ·exact hz
theorem zDv(t:Tm)(k:Int)(ho:t.Ok):zC (λq=>zDx q t k) (vH t k 0):=by simp only[zDx];exact(zHl t k 0 ho).bind zC.ret
def raT(a:Tm)(by' left:Int)(long:Bool):Tm×Int×Bool:=if left-w7 a 0<0 then(.mk 2 0 [],left-w7 a 0,true)else if(vH a by' 0).2≠0 then(.mk 2 0 [],left-w7 a 0,true)else((vH a by' 0).1,left-w7 a 0,long)
mutual def bC(ls:List Tm):Tm->Int->Int->Bool->Tm×Int×Bool|.mk kd n l,b,left,long=>if long=true then(.mk 2 0 [],left,long)else if kd=1/\b<=n then(if h:(n-b).toNat<ls.length then raT (ls[(n-b).toNat]) b left long else(.mk 1 (n-ls.length) [],left,long))else let r:=J4 ls l kd 0 b (left-1) (decide (left-1<0))
  (.mk kd n r.1,r.2.1,r.2.2)def J4(ls:List Tm):List Tm->Int->Nat->Int->Int->Bool->List Tm×Int×Bool|[],_,_,_,left,long=>([],left,long)|t::l,kd,i,b,left,long=>let x:=bC ls t (tU kd i b) left long
 let r:=J4 ls l kd (i+1) b x.2.1 x.2.2
 (x.1::r.1,r.2.1,r.2.2)end
def nJ(left:Int)(long:Bool):Prop:=-8193<=left/\left<=8192/\(long=false->0<=left)
theorem zLN{a:Tm}{by' left:Int}(h:nJ left false):nJ (raT a by' left false).2.1 (raT a by' left false).2.2:=by
 have:=zCf a 0 (by omega) (by omega);have h0:=h.2.2 rfl;have h1:=h.2.1;unfold raT nJ;split;·exact⟨by simp only;omega,by simp only;omega,λh=>by cases h⟩
 ·split;·exact⟨by simp only;omega,by simp only;omega,λh=>by cases h⟩
  ·exact⟨by simp only;omega,by simp only;omega,λ_=>by simp only;omega⟩
def zDu(d:Nat)(a:Int)(b:Bool)(c:zZ):Option (Unit):=some ()
theorem zLO{d a b c}:Cz (zDu d a b c) 288 [.cells [ai a,ab b,.val .nilFunc],.cells [zB zA c .no]] [.mp 0 0,.mp 1 0] (λ_=>.clo 289 [] [.mp 1 0,.mp 2 0]) (λ_=>[.cells [ai a,ab b,.val .nilFunc],.cells [zB zA c .no],.cells [.mp 0 0]]) 0:=fw func288<|fF 0 [0,1,2]
def zOT(c:Nat)(a:Tm)(b:Int):Option (Int):=if a.k !=1 then some (-1)else if decide (a.n<b)then some (-1)else some (yI (a.n-b))
theorem zXE{c a b}:Cz (zOT c a b) 290 [] [yJ a,ai b] (λr=>ai r) (λ_=>[]) 0:=fw func290<|rB 1 (fE 0)<|rB 1 (fE 0)<|fE 2
def aE(b:Nat)(a:Int)(d:Bool)(e:zZ)(c:Tm)(f:Int):Option (Tm×Int×Bool):=zLb b c>>=λr1=>if decide ((yI (a-r1))<0)then L6 b 0>>=λr4=>some (r4,(yI (a-r1)),true)else zDx b c f>>=λr6=>if r6.2 !=0 then L6 b 0>>=λr9=>some (r9,(yI (a-r1)),true)else some (r6.1,(yI (a-r1)),d)
theorem zLP{b a d e c f}:Cz (aE b a d e c f) 291 [.cells [ai a,ab d,.clo 289 [] [.mp 1 0,.mp 2 0]],.cells [zB zA e .no],.cells [.mp 0 0]] [.mp 0 0,yJ c,ai f] (λr=>yJ r.1) (λr=>[.cells [ai r.2.1,ab r.2.2,.clo 289 [] [.mp 1 0,.mp 2 0]],.cells [zB zA e .no],.cells [.mp 0 0]]) 0:=fw func291<|rS (u6 0)<|rC 1 [] zVp λ_=>rB 3 (rC 1 [] zBz λ_=>fE 1)<|rC 1 [] zLL λ_=>rB 3 (rC 1 [] zBz λ_=>fE 1)<|fE 2
def lM(d:Nat)(e:Tm)(f:Int)(a:zZ)(b:Int)(c:Bool):Option (Tm×Bool×Int×Bool):=zOT d e f>>=λr1=>if decide (r1<0)then some ((Tm.mk 0 0 []),false,b,c)else if decide (r1<(a.length:Int))then zM a r1>>=λx5=>aE d b c a x5 f>>=λr7=>some (r7.1,true,r7.2.1,r7.2.2)else jQ d (yI (e.n-(a.length:Int)))>>=λr9=>some (r9,true,b,c)
theorem zLQ{d e f a b c}:Cz (lM d e f a b c) 289 [.cells [zB zA a .no],.cells [.mp 2 0],.cells [ai b,ab c,.clo 289 [] [.mp 0 0,.mp 1 0]]] [yJ e,ai f,.mp 0 0,.mp 1 0] (λr=>.tup [yJ r.1,ab r.2.1]) (λr=>[.cells [zB zA a .no],.cells [.mp 2 0],.cells [ai r.2.2.1,ab r.2.2.2,.clo 289 [] [.mp 0 0,.mp 1 0]]]) 0:=fw func289<|rC 1 [] zXE λ_=>rB 0 (fE 1)<|rB 2 (rA 2 (yY (o:=.no)) λ_=>rC 1 [2,0,1] zLP λ_=>fE 1)<|rC 4 [] lL λ_=>fE 1
mutual def pL:Nat->Int->Bool->zZ->Tm->Int->Option (Tm×Int×Bool)|0,_,_,_,_,_=>none|m+1,q,p,e,d,f=>if p then L6 m 0>>=λr2=>some (r2,q,p)else lM m d f e q p>>=λr4=>if r4.2.1 then some (r4.1,r4.2.2.1,r4.2.2.2)else if decide ((yI (r4.2.2.1-1))<0)then wY m e d f 0 (yI (r4.2.2.1-1)) true []else wY m e d f 0 (yI (r4.2.2.1-1)) r4.2.2.2 []def wY:Nat->zZ->Tm->Int->Int->Int->Bool->zZ->Option (Tm×Int×Bool)
 |0,_,_,_,_,_,_,_=>none|m+1,e,d,f,g,a,b,c=>if decide (g<(d.sub.length:Int))then zM d.sub g>>=λx9=>if g==1 then if d.k !=5 then pL m a b e x9 (yI (f+1))>>=λr13=>yW 40 c [r13.1]>>=λl15=>wY m e d f (yI (g+1)) r13.2.1 r13.2.2 l15 else pL m a b e x9 f>>=λr17=>yW 40 c [r17.1]>>=λl19=>wY m e d f (yI (g+1)) r17.2.1 r17.2.2 l19 else pL m a b e x9 f>>=λr21=>yW 40 c [r21.1]>>=λl23=>wY m e d f (yI (g+1)) r21.2.1 r21.2.2 l23 else some ((Tm.mk d.k d.n c),a,b)end
theorem eY:∀m:Nat,(∀q p e d f,Cz (pL m q p e d f) 315 [.cells [ai q,ab p,.clo 289 [] [.mp 1 0,.mp 2 0]],.cells [zB zA e .no],.cells [.mp 0 0]] [.mp 0 0,yJ d,ai f] (λr=>yJ r.1) (λr=>[.cells [ai r.2.1,ab r.2.2,.clo 289 [] [.mp 1 0,.mp 2 0]],.cells [zB zA e .no],.cells [.mp 0 0]]) 0)/\(∀e d f g a b c,Lz (wY m e d f g a b c) 3 f315 (pt 262069 f315) (λj=>sp j 79 0 [(0,.mp 0 0),(2,ai f),(4,.mp 3 0),(6,.mp 4 0),(9,.mp 5 0),(51,zB zA d.sub .no),(52,ai (d.sub.length:Int)),(53,ai g)]) ⟨[(0,.cells [ai a,ab b,.clo 289 [] [.mp 1 0,.mp 2 0]]),(1,.cells [zB zA e .no]),(2,.cells [.mp 0 0]),(3,.cells [ai d.k,ai d.n,zB zA d.sub .no]),(4,.cells [ai 0,ai 0,zB zA ([]:zZ) .nl]),(5,.cells [ai d.k,ai d.n,zB zA c (.st 0 3)])],6,[0],1,[]⟩ (λr=>yJ r.1) (λr=>[.cells [ai r.2.1,ab r.2.2,.clo 289 [] [.mp 1 0,.mp 2 0]],.cells [zB zA e .no],.cells [.mp 0 0]]) 0 [.blk 0,.seq (pt 4095 f315)]):=xC ⟨λ_ _ _ _ _=>cN,λ_ _ _ _ _ _ _=>lN⟩ λm ih=>⟨λq p e d f=>fw func315<|rB 0 (rC 0 [] zBz λ_=>fE 1)<|rC 2 [1,2,0] zLQ λ_=>rB 1 (fE 3)<|rB 5 (fH 6 [(some 6,2,3)] [0,1,2,3,4,6] [0] [0,2,4,6,9,51,52,53] (ih.2 _ _ _ _ _ _ _))<|fH 5 [(some 6,2,3)] [0,1,2,3,4,6] [0] [0,2,4,6,9,51,52,53] (ih.2 _ _ _ _ _ _ _),λe d f g a b c=>lw λ_=>rB 0 (rA 0 (yY (o:=.no)) λ_=>rB 2 (rB 1 (rS (u6 1)<|rC 1 [0,1,2] (ih.1 _ _ _ _ _) λr13=>rS (oS 0 (yR xF [r13.1]))<|rW (λh16=>oP 0 (xS h16 (by simp))) λ_=>lH 2 [] [0,1,2,3,4,5] [1] [0,2,4,6,9,51,52,53] (ih.2 _ _ _ _ _ _ _))<|rS (u6 0)<|rC 1 [0,1,2] (ih.1 _ _ _ _ _) λr17=>rS (oS 0 (yR xF [r17.1]))<|rW (λh20=>oP 0 (xS h20 (by simp))) λ_=>lH 2 [] [0,1,2,3,4,5] [1] [0,2,4,6,9,51,52,53] (ih.2 _ _ _ _ _ _ _))<|rS (u6 0)<|rC 1 [0,1,2] (ih.1 _ _ _ _ _) λr21=>rS (oS 0 (yR xF [r21.1]))<|rW (λh24=>oP 0 (xS h24 (by simp))) λ_=>lH 2 [] [0,1,2,3,4,5] [1] [0,2,4,6,9,51,52,53] (ih.2 _ _ _ _ _ _ _))<|lE 2⟩
theorem zLR{m q p e d f}:Cz (pL m q p e d f) 315 [.cells [ai q,ab p,.clo 289 [] [.mp 1 0,.mp 2 0]],.cells [zB zA e .no],.cells [.mp 0 0]] [.mp 0 0,yJ d,ai f] (λr=>yJ r.1) (λr=>[.cells [ai r.2.1,ab r.2.2,.clo 289 [] [.mp 1 0,.mp 2 0]],.cells [zB zA e .no],.cells [.mp 0 0]]) 0:=(eY _).1 _ _ _ _ _
def aF(b:Nat)(c:Tm)(a:zZ):Option (Tm×Int):=zDu b 8192 false a>>=λr1=>pL b 8192 false a c 0>>=λr3=>if r3.2.2 then some ((Tm.mk 0 0 []),2)else rV b r3.1>>=λr6=>if r6 then some (r3.1,0)else some ((Tm.mk 0 0 []),2)
theorem zLS{b c a}:Cz (aF b c a) 287 [.cells [zB zA a .no]] [yJ c,.clo 288 [] [.mp 0 0]] (λr=>.tup [yJ r.1,ai r.2]) (λ_=>[.cells [zB zA a .no]]) 0:=fw func287<|rC 0 [3,0] zLO λ_=>rC 2 [3,0,4] zLR λ_=>rB 1 (fE 1)<|rK 1 [] qU (λ_=>fE 3) λ_=>fE 2
def gV:Nat->Tm->zZ->Int->Option (Tm×Int)|0,_,_,_=>none|d+1,c,a,b=>if decide (b<(a.length:Int))then zM a b>>=λx5=>rV d x5>>=λr7=>if r7 then gV d c a (yI (b+1))else some ((Tm.mk 0 0 []),5)else aF d c a>>=λr10=>some (r10.1,r10.2)
def zFn(d:Nat)(c:Tm)(a:zZ):Option (Tm×Int):=rV d c>>=λr1=>if r1 then gV d c a 0 else some ((Tm.mk 0 0 []),5)
theorem zOU:∀d:Nat,∀c a b,Lz (gV d c a b) 0 f245 (pt 4021 f245) (λj=>sp j 28 0 [(2,.mp 0 0),(3,.mp 1 0),(4,.mp 2 0),(12,zB zA a .no),(13,ai (a.length:Int)),(14,ai b)]) ⟨[(0,.cells [ai c.k,ai c.n,zB zA c.sub .no]),(1,.cells [zB zA a .no]),(2,.cells [ai 0,ai 0,zB zA ([]:zZ) .nl])],3,[],0,[]⟩ (λr=>.tup [yJ r.1,ai r.2]) (λ_=>[]) 0 [.blk 0,.seq (pt 63 f245)]:=xC (λ_ _ _=>lN) λd ih=>λc a b=>lw λ_=>rB 0 (rA 0 (yY (o:=.no)) λ_=>rK 3 [] qU (λ_=>lH 2 [] [0,1,2] [] [2,3,4,12,13,14] (ih _ _ _)) λ_=>lE 2)<|rC 1 [1] zLS λ_=>lE 3
theorem zOV{d c a}:Cz (zFn d c a) 245 [] [yJ c,zB zA a .no] (λr=>.tup [yJ r.1,ai r.2]) (λ_=>[]) 0:=fw func245<|rK 1 [] qU (λ_=>fH 3 [] [0,1,2] [] [2,3,4,12,13,14] (zOU _ _ _ _)) λ_=>fE 2
def zLT(c:Nat)(b a:Tm):Option (Tm×Int):=zFn c b [a]>>=λr1=>some (r1.1,r1.2)
theorem zVi{c b a}:Cz (zLT c b a) 270 [] [yJ b,yJ a] (λr=>.tup [yJ r.1,ai r.2]) (λ_=>[]) 0:=fw func270<|rS (oS 2 (yR xF [a]))<|rC 0 [] zOV λ_=>fE 3
theorem J5:zT.Ok:=by unfold zT;rw[Tm.Ok,gL];simp
theorem yX(k n:Int):(Tm.mk k n []).Ok:=by rw[Tm.Ok,gL];simp
theorem zIY(ls:List Tm)(a:Tm)(b left:Int)(long:Bool)(ho:a.Ok)(hl:nJ left long):zC (λq=>aE q left long ls a b) (raT a b left long):=by
 simp only[aE];have hs:=zCf a 0 (by omega) (by omega);have h1:=hl.1;have h2:=hl.2.1;refine(zHt a ho).bind ?_;rw[zS (x:=left-w7 a 0) (by omega) (by omega)];unfold raT;by_cases h:left-w7 a 0<0;·rw[if_pos h];exact zC.ifT (decide_eq_true h) ((nZ 0).bind zC.ret)
 ·rw[if_neg h];refine zC.ifF (decide_eq_false h) ((zDv a b ho).bind ?_);by_cases h3:(vH a b 0).2≠0;·rw[if_pos h3];exact zC.ifT (by simpa using h3) ((nZ 0).bind zC.ret)
  ·rw[if_neg h3];exact zC.ifF (by simpa using h3) zC.ret
mutual theorem N3(ls:List Tm):∀(t:Tm)(b left:Int)(long:Bool),nJ left long->nJ (bC ls t b left long).2.1 (bC ls t b left long).2.2|.mk kd n l,b,left,long,h=>by rw[bC];cases long with|true=>simpa using h|false=>
 rw[if_neg (by simp)];split
 ·split;·exact zLN h
  ·exact h
 ·have h0:=h.2.2 rfl;have h1:=h.2.1;refine zDt ls l kd 0 b _ _ ⟨by omega,by omega,λh2=>?_⟩;simp at h2;omega theorem zDt(ls:List Tm):∀(l:List Tm)(kd:Int)(i:Nat)(b left:Int)(long:Bool),nJ left long->nJ (J4 ls l kd i b left long).2.1 (J4 ls l kd i b left long).2.2|[],kd,i,b,left,long,h=>by rw[J4];exact h|t::l,kd,i,b,left,long,h=>by rw[J4];exact zDt ls l kd (i+1) b _ _ (N3 ls t _ left long h)end
theorem zHk(ls:List Tm):∀(l:List Tm)(kd:Int)(i:Nat)(b left:Int)(long:Bool),(J4 ls l kd i b left long).1.length=l.length|[],_,_,_,_,_=>by rw[J4]|t::l,kd,i,b,left,long=>by rw[J4];exact congrArg (·+1) (zHk ls l kd (i+1) b _ _)
theorem zSE(a:Tm)(b left:Int)(long:Bool)(h:a.Ok):(raT a b left long).1.Ok:=by
 unfold raT;split;·exact yX _ _
 ·split;·exact yX _ _
  ·exact iQ a b 0 h
mutual theorem zFm(ls:List Tm)(hls:∀a∈ls,a.Ok):∀(t:Tm)(b left:Int)(long:Bool),t.Ok->(bC ls t b left long).1.Ok
 |.mk kd n l,b,left,long,h=>by
  rw[bC];split;·exact yX _ _
  ·split
   ·split;·exact zSE _ _ _ _ (hls _ (List.getElem_mem _))
    ·exact yX _ _
   ·rw[Tm.Ok]at h⊢;rw[zHk];exact⟨h.1,zLU ls hls l kd 0 b _ _ h.2⟩theorem zLU(ls:List Tm)(hls:∀a∈ls,a.Ok):∀(l:List Tm)(kd:Int)(i:Nat)(b left:Int)(long:Bool),gL l->gL (J4 ls l kd i b left long).1|[],_,_,_,_,_,_=>by rw[J4,gL];trivial|t::l,kd,i,b,left,long,h=>by rw[gL]at h;rw[J4,gL];exact⟨zFm ls hls t _ _ _ h.1,zLU ls hls l kd (i+1) b _ _ h.2⟩end
mutual theorem zHj(ls:List Tm)(hls:∀a∈ls,a.Ok)(hlen:ls.length<=1152921504606846976):∀(t:Tm)(b left:Int)(long:Bool),xW t=true->0<=b->b+t.high<=1152921504606846976->nJ left long->zC (λq=>pL q left long ls t b) (bC ls t b left long)|.mk kd n l,b,left,long,hg,hb,hb2,hl=>by refine zC.succ ?_;simp only[pL];have hh:=wX hg;have hn:=kT hh.1;rw[Tm.high]at hb2;rw[bC];cases long with|true=>exact zC.ifT rfl ((nZ 0).bind (zC.ret.eq (by simp)))|false=>
   refine zC.ifF rfl ?_;rw[if_neg (by simp)];have hloose:zC (λq=>zOT q (.mk kd n l) b) (if kd=1/\b<=n then n-b else-1):=by
    refine zC.mk λq=>?_;unfold zOT;simp only[Tm.k,Tm.n];by_cases h1:kd=1
    ·by_cases h2:n<b;·simp[h1,h2,show¬b<=n by omega]
     ·simp[h1,h2,show b<=n by omega];exact zS (by omega) (by omega)
    ·simp[h1]
   by_cases h1:kd=1/\b<=n
   ·rw[if_pos h1]at hloose⊢;have hleaf:zC (λq=>lM q (.mk kd n l) b ls left false) (let r:=(if h:(n-b).toNat<ls.length then raT (ls[(n-b).toNat]) b left false else(.mk 1 (n-ls.length) [],left,false));(r.1,true,r.2.1,r.2.2)):=by
     simp only[lM];refine hloose.bind (zC.ifF (decide_eq_false (by omega)) ?_);by_cases h2:(n-b).toNat<ls.length
     ·rw[dif_pos h2];refine zC.ifT (decide_eq_true (by omega)) (zC.pure (a:=ls[(n-b).toNat]) ?_ ((zIY ls _ b left false (hls _ (List.getElem_mem _)) hl).bind zC.ret));unfold zM;rw[if_pos (by omega)];exact List.getElem?_eq_getElem h2
     ·rw[dif_neg h2];refine zC.ifF (decide_eq_false (by omega)) ?_;simp only[Tm.n];rw[zS (by omega) (by omega)];exact(tY _).bind zC.ret
    exact hleaf.bind (zC.ifT rfl zC.ret)
   ·rw[if_neg h1]at hloose⊢;have hleaf:zC (λq=>lM q (.mk kd n l) b ls left false) (.mk 0 0 [],false,left,false):=by simp only[lM];exact hloose.bind (zC.ifT rfl zC.ret)
    refine hleaf.bind (zC.ifF rfl ?_);have h0:=hl.2.2 rfl;have h3:=hl.2.1;rw[zS (x:=left-1) (by omega) (by omega)];have go:∀lg:Bool,lg=decide (left-1<0)->zC (λq=>wY q ls (.mk kd n l) b 0 (left-1) lg []) (let r:=J4 ls l kd 0 b (left-1) (decide (left-1<0));(.mk kd n r.1,r.2.1,r.2.2)):=λlg hlg=>by subst hlg;refine(zLV ls hls hlen l (.mk kd n l) 0 b (left-1) _ [] rfl hh.2 (by have:=hn.2.2.2.2;exact this) hb (by omega) ⟨by omega,by omega,λh2=>?_⟩ (by simp)).eq (by simp[Tm.k,Tm.n]);simp at h2;omega
    by_cases h4:left-1<0;·exact zC.ifT (decide_eq_true h4) (go true (by simp[h4]))
    ·exact zC.ifF (decide_eq_false h4) (go false (by simp[h4]))theorem zLV(ls:List Tm)(hls:∀a∈ls,a.Ok)(hlen:ls.length<=1152921504606846976):∀(l:List Tm)(p:Tm)(v:Nat)(b left:Int)(long:Bool)(acc:List Tm),p.sub.drop v=l->pU l=true->p.sub.length<=2->0<=b->b+1+qL l<=1152921504606846976->nJ left long->acc.length<=v->zC (λq=>wY q ls p b (v:Int) left long acc) (.mk p.k p.n (acc++(J4 ls l p.k v b left long).1),(J4 ls l p.k v b left long).2.1,(J4 ls l p.k v b left long).2.2)
 |[],p,v,b,left,long,acc,hd,hg,hl2,hb,hb2,hl,ha=>by refine zC.succ ?_;simp only[wY];exact zC.ifF (yF hd) (zC.ret.eq (by rw[J4];simp))|t::l,p,v,b,left,long,acc,hd,hg,hl2,hb,hb2,hl,ha=>by
  have hlt:=yK hd;have hgc:=wU hg;rw[qL]at hb2;refine zC.succ ?_;simp only[wY];refine zC.ifT (yD hd) (zC.pure (yA hd) ?_);have next:∀x:Tm×Int×Bool,nJ x.2.1 x.2.2->zC (λq=>yW 40 acc [x.1]>>=λl15=>wY q ls p b (yI ((v:Int)+1)) x.2.1 x.2.2 l15) (.mk p.k p.n (acc++x.1::(J4 ls l p.k (v+1) b x.2.1 x.2.2).1),(J4 ls l p.k (v+1) b x.2.1 x.2.2).2.1,(J4 ls l p.k (v+1) b x.2.1 x.2.2).2.2):=λx hx=>by refine zC.pure (zW (by simp<;>omega)) ?_;rw[zV v (by omega)];exact(zLV ls hls hlen l p (v+1) b x.2.1 x.2.2 (acc++[x.1]) (zU hd) hgc.2 hl2 hb (by omega) hx (by simp<;>omega)).eq (by simp)
  rw[J4];by_cases h1:v=1
  ·subst h1;refine zC.ifT rfl ?_;by_cases h5:p.k=5
   ·refine zC.ifF (by simp[h5]) ?_;have e:tU p.k 1 b=b:=by unfold tU;simp[h5]
    rw[e];exact(zHj ls hls hlen t b left long hgc.1 hb (by omega) hl).bind (next _ (N3 ls t b left long hl))
   ·refine zC.ifT (by simp[h5]) ?_;have e:tU p.k 1 b=b+1:=by unfold tU;simp[h5]
    rw[e,zS (x:=b+1) (by omega) (by omega)];exact(zHj ls hls hlen t (b+1) left long hgc.1 (by omega) (by omega) hl).bind (next _ (N3 ls t (b+1) left long hl))
  ·refine zC.ifF (by simp<;>omega) ?_;have e:tU p.k v b=b:=by unfold tU;simp[h1]
   rw[e];exact(zHj ls hls hlen t b left long hgc.1 hb (by omega) hl).bind (next _ (N3 ls t b left long hl))end
def iR(t:Tm)(ls:List Tm):Tm×Int:=if zJ t=true/\(ls.all zJ)=true then(if(bC ls t 0 8192 false).2.2=true then(zT,2)else if zJ (bC ls t 0 8192 false).1=true then((bC ls t 0 8192 false).1,0)else(zT,2))else(zT,5)
theorem zSF(t:Tm)(ls:List Tm)(h:zJ t=true)(ho:t.Ok)(hls:∀a∈ls,a.Ok)(hlen:ls.length<=1152921504606846976):zC (λq=>aF q t ls) (if(bC ls t 0 8192 false).2.2=true then(zT,2)else if zJ (bC ls t 0 8192 false).1=true then((bC ls t 0 8192 false).1,0)else(zT,2)):=by
 simp only[aF];have hs:=zN h;refine zC.bind (a:=()) (zC.mk λ_=>rfl) ((zHj ls hls hlen t 0 8192 false hs.2.2 (by omega) (by omega) ⟨by omega,by omega,λ_=>by omega⟩).bind ?_);by_cases h1:(bC ls t 0 8192 false).2.2=true;·rw[if_pos h1];exact zC.ifT h1 zC.ret
 ·rw[if_neg h1];refine zC.ifF (by simpa using h1) ((xM _ (zFm ls hls t 0 8192 false ho)).bind ?_);by_cases h2:zJ (bC ls t 0 8192 false).1=true;·rw[if_pos h2,if_pos h2];exact zC.ret
  ·rw[if_neg h2,if_neg h2];exact zC.ret
theorem zDs(t:Tm)(ls:List Tm)(h:zJ t=true)(ho:t.Ok)(hls:∀a∈ls,a.Ok)(hlen:ls.length<=1152921504606846976):∀(r:List Tm)(v:Nat),ls.drop v=r->zC (λq=>gV q t ls (v:Int)) (if(r.all zJ)=true then(if(bC ls t 0 8192 false).2.2=true then(zT,2)else if zJ (bC ls t 0 8192 false).1=true then((bC ls t 0 8192 false).1,0)else(zT,2))else(zT,5))
 |[],v,hd=>by refine zC.succ ?_;simp only[gV];exact zC.ifF (yF hd) ((zSF t ls h ho hls hlen).bind (zC.ret.eq (by simp)))|x::r,v,hd=>by
  have hlt:=yK hd;have hx:x∈ls:=by
   have:x∈ls.drop v:=by rw[hd];simp
   exact List.mem_of_mem_drop this
  refine zC.succ ?_;simp only[gV];refine zC.ifT (yD hd) (zC.pure (yA hd) ((xM x (hls x hx)).bind ?_));by_cases h1:zJ x=true
  ·refine zC.ifT h1 ?_;rw[zV v (by omega)];exact(zDs t ls h ho hls hlen r (v+1) (zU hd)).eq (by simp[h1])
  ·exact zC.ifF (by simpa using h1) (zC.ret.eq (by simp[h1,zT]))
theorem N4(t:Tm)(ls:List Tm)(ho:t.Ok)(hls:∀a∈ls,a.Ok)(hlen:ls.length<=1152921504606846976):zC (λq=>zFn q t ls) (iR t ls):=by
 simp only[zFn];refine(xM t ho).bind ?_;unfold iR;by_cases h:zJ t=true
 ·refine zC.ifT h ((zDs t ls h ho hls hlen ls 0 rfl).eq ?_);simp[h]
 ·exact zC.ifF (by simpa using h) (zC.ret.eq (by simp[h,zT]))
theorem zLW(t a:Tm)(ho:t.Ok)(ha:a.Ok):zC (λq=>zLT q t a) (iR t [a]):=by simp only[zLT];exact(N4 t [a] ho (by simpa using ha) (by simp)).bind zC.ret
theorem aG(t:Tm)(ls:List Tm)(ho:t.Ok)(hls:∀a∈ls,a.Ok):(iR t ls).1.Ok:=by
 unfold iR;split
 ·split;·exact J5
  ·split;·exact zFm ls hls t 0 8192 false ho
   ·exact J5
 ·exact J5
def gW:Nat->Int->Int->(Tm×zZ)->Int->Option (Bool)
 |0,_,_,_,_=>none|d+1,b,c,r1,a=>if decide (a<b)then zM r1.2 a>>=λx7=>if x7.k !=1 then some false else if x7.n !=(yI ((yI (c-1))-a))then some false else gW d b c r1 (yI (a+1))else some true
def zIZ(d:Nat)(e:Tm)(f b g c:Int):Option (Bool):=aC d e>>=λr1=>if r1.1.k !=6 then some false else if r1.1.n !=f then some false else if(r1.2.length:Int)!=(yI (b+g))then some false else gW d b c r1 0
theorem zOW:∀d:Nat,∀b c r1 a,Lz (gW d b c r1 a) 0 f209 (pt 16309 f209) (λj=>sp j 59 0 [(4,ai c),(12,zB zA r1.2 .no),(36,ai b),(37,ai a)]) ⟨[],0,[],0,[]⟩ (λr=>ab r) (λ_=>[]) 0 [.blk 0,.seq (pt 255 f209)]:=xC (λ_ _ _ _=>lN) λd ih=>λb c r1 a=>lw λ_=>rB 0 (rH λ_ h8=>rS (oA 0 (yY (o:=.no) h8))<|rB 1 (lE 0)<|rS (oA 0 (yY (o:=.no) h8))<|rB 3 (lE 0)<|lH 1 [] [] [] [4,12,36,37] (ih _ _ _ _))<|lE 0
theorem zSG{d e f b g c}:Cz (zIZ d e f b g c) 209 [] [yJ e,ai f,ai b,ai g,ai c] (λr=>ab r) (λ_=>[]) 0:=fw func209<|rC 1 [] zFr λ_=>rB 4 (fE 0)<|rB 1 (fE 0)<|rB 2 (fE 0)<|fH 0 [] [] [] [4,12,36,37] (zOW _ _ _ _ _)
def D8:Nat->Int->Int->zZ->Int->Int->zZ->Option (zZ×Tm×Int)|0,_,_,_,_,_,_=>none|f+1,d,e,g,b,c,a=>if decide (e<d)then if b !=3 then some ([],(Tm.mk 0 0 []),6)else zM a 0>>=λx10=>yW 40 g [x10]>>=λl12=>zM a 1>>=λx14=>D8 f d (yI (e+1)) l12 x14.k x14.n x14.sub else some (g,(Tm.mk b c a),0)
def e91(f:Nat)(m:Tm)(d:Int):Option (zZ×Tm×Int):=rV f m>>=λr1=>if r1 then if decide (d<0)then some ([],(Tm.mk 0 0 []),5)else if decide (d>24)then some ([],(Tm.mk 0 0 []),2)else e96 f m>>=λr6=>D8 f d 0 [] r6.k r6.n r6.sub else some ([],(Tm.mk 0 0 []),5)
theorem zSH:∀f:Nat,∀d e g b c a,Lz (D8 f d e g b c a) 0 f91 (pt 65461 f91) (λj=>sp j 45 0 [(5,.mp 0 0),(7,zB zA g (.st 0 3)),(8,.mp 1 0),(24,ai d),(25,ai e)]) ⟨[(0,.cells [ai 0,ai 0,zB zA ([]:zZ) .nl]),(1,.cells [ai b,ai c,zB zA a .no])],2,[0],1,[]⟩ (λr=>.tup [.sl (zI zA r.1) r.1.length .no,yJ r.2.1,ai r.2.2]) (λ_=>[]) 0 [.blk 1,.seq (pt 1023 f91)]:=xC (λ_ _ _ _ _ _=>lN) λf ih=>λd e g b c a=>lw λ_=>rB 0 (rB 1 (lE 1)<|rA 1 (yY (o:=.no)) λx10=>rS (oS 1 (yR xF [x10]))<|rW (λh13=>oP 0 (xS h13 (by simp))) λ_=>rA 1 (yY (o:=.no)) λ_=>lH 3 [] [0,1] [1] [5,7,8,24,25] (ih _ _ _ _ _ _))<|lE 2
theorem c91{f m d}:Cz (e91 f m d) 91 [] [yJ m,ai d] (λr=>.tup [.sl (zI zA r.1) r.1.length .no,yJ r.2.1,ai r.2.2]) (λ_=>[]) 0:=fw func91<|rK 1 [] qU (λ_=>rB 1 (fE 1)<|rB 0 (fE 1)<|rC 1 [] c96 λ_=>fH 1 [(none,7,3)] [1,2] [0] [5,7,8,24,25] (zSH _ _ _ _ _ _ _)) λ_=>fE 2
def D9:Nat->Tm->Int->Int->Int->zZ->Option (zZ×Tm×Int)|0,_,_,_,_,_=>none|e+1,d,f,b,c,a=>if b==3 then if(a.length:Int)==2 then if decide (f<=24)then zM a 1>>=λx4=>D9 e d (yI (f+1)) x4.k x4.n x4.sub else e91 e d f>>=λr6=>some (r6.1,r6.2.1,r6.2.2)else e91 e d f>>=λr8=>some (r8.1,r8.2.1,r8.2.2)else e91 e d f>>=λr10=>some (r10.1,r10.2.1,r10.2.2)
def e99(e:Nat)(d:Tm):Option (zZ×Tm×Int):=D9 e d 0 d.k d.n d.sub
theorem zSJ:∀e:Nat,∀d f b c a,Lz (D9 e d f b c a) 0 f99 (pt 4021 f99) (λj=>sp j 34 0 [(1,.mp 0 0),(3,.mp 1 0),(5,ai f),(6,.mp 2 0)]) ⟨[(0,.cells [ai d.k,ai d.n,zB zA d.sub .no]),(1,.cells [ai 0,ai 0,zB zA ([]:zZ) .nl]),(2,.cells [ai b,ai c,zB zA a .no])],3,[],0,[]⟩ (λr=>.tup [.sl (zI zA r.1) r.1.length .no,yJ r.2.1,ai r.2.2]) (λ_=>[]) 0 [.blk 0,.seq (pt 63 f99)]:=xC (λ_ _ _ _ _=>lN) λe ih=>λd f b c a=>lw λ_=>rB 1 (rB 2 (rB 0 (rA 4 (yY (o:=.no)) λ_=>lH 2 [] [0,1,3] [] [1,3,5,6] (ih _ _ _ _ _))<|rC 1 [] c91 λ_=>lE 4)<|rC 1 [] c91 λ_=>lE 4)<|rC 1 [] c91 λ_=>lE 4
theorem c99{e d}:Cz (e99 e d) 99 [] [yJ d] (λr=>.tup [.sl (zI zA r.1) r.1.length .no,yJ r.2.1,ai r.2.2]) (λ_=>[]) 0:=fw func99<|fH 2 [] [0,1,2] [] [1,3,5,6] (zSJ _ _ _ _ _ _)
def aH:Nat->Tm->Option (List Tm×Tm)|0,t=>some ([],t)|n+1,.mk k _ [a,b]=>if k=3 then(aH n b).map λr=>(a::r.1,r.2)else none|_+1,_=>none
theorem zHi(n:Nat)(m:Int)(a b:Tm):aH (n+1) (.mk 3 m [a,b])=(aH n b).map λr=>(a::r.1,r.2):=by rw[aH,if_pos rfl]
theorem zDr{n:Nat}{t:Tm}(h:t.k≠3):aH (n+1) t=none:=by
 unfold aH;split;·rename_i h1;cases h1
 ·rename_i h1;exact if_neg h
 ·rfl
theorem N5{t:Tm}(hg:xW t=true)(h:t.k=3):∃a b,t=.mk 3 t.n [a,b]/\xW a=true/\xW b=true:=by obtain⟨k,n,l⟩:=t;have hh:=wX hg;have hs:=sR hh.1;replace h:k=3:=h;subst h;obtain⟨a,b,rfl⟩:=zOR (hs.2.2.2.2.2.1 (.inl rfl)).1;have hc:=wU hh.2;exact⟨a,b,rfl,hc.1,(wU hc.2).1⟩
def zFl(acc:List Tm):Option (List Tm×Tm)->List Tm×Tm×Int|none=>([],zT,6)|some r=>(acc++r.1,r.2,0)
theorem zJz(N:Nat)(hN:N<=24):∀(m v:Nat)(acc:List Tm)(x:Tm),v+m=N->xW x=true->acc.length<=v->zC (λq=>D8 q (N:Int) (v:Int) acc x.k x.n x.sub) (zFl acc (aH m x)):=by intro m;induction m with|zero=>intro v acc x hm hg ha;refine zC.succ ?_;simp only[D8];refine zC.ifF (decide_eq_false (by omega)) (zC.ret.eq ?_);rw[aH,zFl,vT];simp|succ m ih=>
 intro v acc x hm hg ha;refine zC.succ ?_;simp only[D8];refine zC.ifT (decide_eq_true (by omega)) ?_;by_cases h:x.k=3;·obtain⟨a,b,hx,hga,hgb⟩:=N5 hg h;refine zC.ifF (by simp[h]) ?_;rw[hx,zHi];refine zC.pure (a:=a) rfl (zC.pure (zW (by simp<;>omega)) (zC.pure (a:=b) rfl ?_));rw[zV v (by omega)];refine(ih (v+1) (acc++[a]) b (by omega) hgb (by simp<;>omega)).eq ?_;cases aH m b<;>simp[zFl]
 ·rw[zDr h,zFl];exact zC.ifT (by simp[h]) zC.ret
def wM(t:Tm)(n:Int):List Tm×Tm×Int:=if zJ t=true then(if n<0 then([],zT,5)else if n>24 then([],zT,2)else zFl [] (aH n.toNat t))else([],zT,5)
theorem iS(t:Tm)(n:Int)(ho:t.Ok):zC (λq=>e91 q t n) (wM t n):=by
 simp only[e91];refine(xM t ho).bind ?_;unfold wM;by_cases h:zJ t=true
 ·rw[if_pos h];refine zC.ifT h ?_;by_cases h1:n<0;·rw[if_pos h1];exact zC.ifT (decide_eq_true h1) zC.ret
  ·rw[if_neg h1];refine zC.ifF (decide_eq_false h1) ?_;by_cases h2:n>24;·rw[if_pos h2];exact zC.ifT (decide_eq_true h2) zC.ret
   ·rw[if_neg h2];refine zC.ifF (decide_eq_false h2) ((oJ t ho).bind ?_);unfold lJ;rw[if_pos h];have:=zJz n.toNat (by omega) n.toNat 0 [] t (by omega) (zN h).2.2 (by simp);rw[show((n.toNat:Nat):Int)=n by omega]at this;exact this
 ·rw[if_neg h];exact zC.ifF (by simpa using h) zC.ret
def uL:Tm->Nat|.mk k _ [_,b]=>if k=3 then uL b+1 else 0|_=>0
theorem N6(m:Int)(a b:Tm):uL (.mk 3 m [a,b])=uL b+1:=by rw[uL,if_pos rfl]
theorem zFk{t:Tm}(h:t.k≠3):uL t=0:=by
 unfold uL;split;·exact if_neg h
 ·rfl
theorem zLY{t:Tm}(h:t.sub.length≠2):uL t=0:=by
 unfold uL;split;·exact absurd rfl h
 ·rfl
def xG(t:Tm):List Tm×Tm×Int:=wM t ((min (uL t) 25:Nat):Int)
theorem zJy(p:Tm)(ho:p.Ok):∀(m v:Nat)(x:Tm),v+m=25->zC (λq=>D9 q p (v:Int) x.k x.n x.sub) (wM p ((min (v+uL x) 25:Nat):Int)):=by intro m;induction m with|zero=>
 intro v x hm;refine zC.succ ?_;simp only[D9];have hv:v=25:=by omega
 subst hv;have hsp:zC (λq=>e91 q p ((25:Nat):Int)>>=λr6=>some (r6.1,r6.2.1,r6.2.2)) (wM p ((min (25+uL x) 25:Nat):Int)):=((iS p _ ho).bind zC.ret).eq (by rw[show min (25+uL x) 25=25 by omega]);exact zC.iff (λ_=>zC.iff (λ_=>zC.ifF rfl hsp) λ_=>hsp) λ_=>hsp|succ m ih=>
 intro v x hm;refine zC.succ ?_;simp only[D9];have hsp:uL x=0->zC (λq=>e91 q p (v:Int)>>=λr6=>some (r6.1,r6.2.1,r6.2.2)) (wM p ((min (v+uL x) 25:Nat):Int)):=λh=>((iS p _ ho).bind zC.ret).eq (by rw[h,show min (v+0) 25=v by omega]);by_cases h3:x.k=3
 ·refine zC.ifT (by simp[h3]) ?_;by_cases h2:x.sub.length=2
  ·refine zC.ifT (by simp[h2]) (zC.ifT (decide_eq_true (by omega)) ?_);obtain⟨k,n,l⟩:=x;replace h3:k=3:=h3;subst h3;obtain⟨a,b,rfl⟩:=zOR h2;refine zC.pure (a:=b) rfl ?_;rw[zV v (by omega),N6];exact(ih (v+1) b (by omega)).eq (by rw[show v+1+uL b=v+(uL b+1)by omega])
  ·exact zC.ifF (by simp<;>omega) (hsp (zLY h2))
 ·exact zC.ifF (by simp[h3]) (hsp (zFk h3))
theorem aI(t:Tm)(ho:t.Ok):zC (λq=>e99 q t) (xG t):=by simp only[e99];exact(zJy t ho 25 0 t rfl).eq (by unfold xG;simp)
theorem j4:∀(n:Nat)(t:Tm)(r:List Tm×Tm),xW t=true->aH n t=some r->r.1.length=n/\uL t=n+uL r.2/\(xW r.2=true/\r.2.nodes<=t.nodes/\r.2.high<=t.high)/\∀x∈r.1,xW x=true/\x.nodes<=t.nodes/\x.high<=t.high
 |0,t,r,hg,h=>by rw[aH]at h;cases h;exact⟨rfl,by simp,⟨hg,Nat.le_refl _,Nat.le_refl _⟩,λx hx=>by cases hx⟩|n+1,t,r,hg,h=>by
  by_cases h3:t.k=3
  ·obtain⟨a,b,hx,hga,hgb⟩:=N5 hg h3;rw[hx]at h⊢;rw[zHi]at h;obtain⟨r',h1,rfl⟩:=Option.map_eq_some_iff.1 h;have ih:=j4 n b r' hgb h1;rw[N6];simp only[Tm.nodes,yU,Tm.high,qL];refine⟨by simp[ih.1],by omega,⟨ih.2.2.1.1,by omega,by omega⟩,λx hx=>?_⟩;rcases List.mem_cons.1 hx with rfl|hx;·exact⟨hga,by omega,by omega⟩
   ·have:=ih.2.2.2 x hx;exact⟨this.1,by omega,by omega⟩
  ·rw[zDr h3]at h;cases h
theorem E0{t:Tm}{n:Int}{l:List Tm}{y:Tm}(h:wM t n=(l,y,0)):zJ t=true/\0<=n/\n<=24/\(l.length:Int)=n/\uL t=l.length+uL y/\zJ y=true/\∀x∈l,zJ x=true:=by
 unfold wM at h;split at h
 ·rename_i hs;split at h;·simp at h
  ·split at h;·simp at h
   ·cases hr:aH n.toNat t with|none=>rw[hr]at h;simp[zFl]at h|some r=>rw[hr]at h;simp only[zFl,List.nil_append,Prod.mk.injEq,and_true]at h;obtain⟨rfl,rfl⟩:=h;have hsp:=zN hs;have:=j4 _ _ _ hsp.2.2 hr;refine⟨hs,by omega,by omega,by omega,by omega,nI (by omega) (by omega) this.2.2.1.1,λx hx=>?_⟩;have hx:=this.2.2.2 x hx;exact nI (by omega) (by omega) hx.1
 ·simp at h
theorem lO{t:Tm}{l:List Tm}{y:Tm}(h:xG t=(l,y,0)):zJ t=true/\l.length=uL t/\l.length<=24/\uL y=0/\zJ y=true/\∀x∈l,zJ x=true:=by have:=E0 h;refine⟨this.1,by omega,by omega,by omega,this.2.2.2.2.2.1,this.2.2.2.2.2.2⟩
def zDq:List Tm->Int->Bool|[],_=>true|a::l,n=>a.k==1&&a.n==n&&zDq l (n-1)
def rY(t:Tm)(of pars more binders:Int):Bool:=(yN t).k==6&&(yN t).n==of&&((xI t).length:Int)==pars+more&&zDq ((xI t).take pars.toNat) (binders-1)
theorem zDp(p:Tm×List Tm)(P:Nat)(binders:Int)(hP:P<=p.2.length)(hl:p.2.length<=8192)(hb:-1152921504606846976<=binders/\binders<=1152921504606846976):∀(m v:Nat),v+m=P->zC (λq=>gW q (P:Int) binders p (v:Int)) (zDq ((p.2.take P).drop v) (binders-1-v)):=by intro m;induction m with|zero=>intro v hm;refine zC.succ ?_;simp only[gW];refine zC.ifF (decide_eq_false (by omega)) (zC.ret.eq ?_);rw[List.drop_eq_nil_of_le (by simp<;>omega),zDq]|succ m ih=>
 intro v hm;refine zC.succ ?_;simp only[gW];have hv:v<(p.2.take P).length:=by simp<;>omega
 have hd:=List.drop_eq_getElem_cons hv;have hg:zM p.2 (v:Int)=some (p.2.take P)[v]:=by unfold zM;rw[if_pos (by omega),show(v:Int).toNat=v by omega,List.getElem?_eq_getElem (by omega)];simp
 generalize(p.2.take P)[v]=x at hd hg;refine zC.ifT (decide_eq_true (by omega)) (zC.pure hg ?_);rw[hd,zDq,zS (x:=binders-1) (by omega) (by omega),zS (x:=binders-1-v) (by omega) (by omega)];by_cases h1:x.k=1
 ·refine zC.ifF (by simp[h1]) ?_;by_cases h2:x.n=binders-1-v
  ·refine zC.ifF (by simp[h2]) ?_;rw[zV v (by omega)];refine(ih (v+1) (by omega)).eq ?_;rw[show binders-1-((v+1:Nat):Int)=binders-1-v-1 by omega];simp[h1,h2]
  ·exact zC.ifT (by simp[h2]) (zC.ret.eq (by simp[h2]))
 ·exact zC.ifT (by simp[h1]) (zC.ret.eq (by simp[h1]))
theorem cM(t:Tm)(of pars more binders:Int)(hs:zJ t=true)(h0:0<=pars/\pars<=1152921504606846976)(h1:0<=more/\more<=1152921504606846976)(hb:-1152921504606846976<=binders/\binders<=1152921504606846976):zC (λq=>zIZ q t of pars more binders) (rY t of pars more binders):=by
 simp only[zIZ];refine(lK t hs).bind ?_;unfold rY;by_cases h2:(yN t).k=6
 ·refine zC.ifF (by simp[h2]) ?_;by_cases h3:(yN t).n=of
  ·refine zC.ifF (by simp[h3]) ?_;rw[zS (x:=pars+more) (by omega) (by omega)];by_cases h4:((xI t).length:Int)=pars+more
   ·refine zC.ifF (by simp[h4]) ?_;have hl:=qV t (zN hs).2.2;have hn:=(zN hs).1;have:=zDp (yN t,xI t) pars.toNat binders (by show _<=(xI t).length;omega) (by show(xI t).length<=_;omega) hb pars.toNat 0 (by omega);rw[show((pars.toNat:Nat):Int)=pars by omega]at this;exact this.eq (by simp[h2,h3,h4])
   ·exact zC.ifT (by simp[h4]) (zC.ret.eq (by simp[h4]))
  ·exact zC.ifT (by simp[h3]) (zC.ret.eq (by simp[h3]))
 ·exact zC.ifT (by simp[h2]) (zC.ret.eq (by simp[h2]))
def zFj(b:Nat)(a:Int):Option (Bool):=if decide (a>=0)then if decide (a<=1114111)then if decide (a<55296)then some true else some (decide (a>57343))else some false else some false
theorem zOX{b a}:Cz (zFj b a) 239 [] [ai a] (λr=>ab r) (λ_=>[]) 0:=fw func239<|rB 0 (rB 0 (rB 0 (fE 0)<|fE 1)<|fE 0)<|fE 0
def zOY(b:Nat)(a:U8):Option (Int×Int):=if decide (a<128)then some (1,(yI (a)))else if decide (a>=192)then if decide (a<224)then some (2,(yI ((IntKind.u8.wrap ((BitVec.ofInt (IntKind.bits .u8) a&&&BitVec.ofInt (IntKind.bits .u8) 31).toNat:Nat)))))else if decide (a>=224)then if decide (a<240)then some (3,(yI ((IntKind.u8.wrap ((BitVec.ofInt (IntKind.bits .u8) a&&&BitVec.ofInt (IntKind.bits .u8) 15).toNat:Nat)))))else if decide (a>=240)then if decide (a<248)then some (4,(yI ((IntKind.u8.wrap ((BitVec.ofInt (IntKind.bits .u8) a&&&BitVec.ofInt (IntKind.bits .u8) 7).toNat:Nat)))))else some (0,0)else some (0,0)else if decide (a>=240)then if decide (a<248)then some (4,(yI ((IntKind.u8.wrap ((BitVec.ofInt (IntKind.bits .u8) a&&&BitVec.ofInt (IntKind.bits .u8) 7).toNat:Nat)))))else some (0,0)else some (0,0)else if decide (a>=224)then if decide (a<240)then some (3,(yI ((IntKind.u8.wrap ((BitVec.ofInt (IntKind.bits .u8) a&&&BitVec.ofInt (IntKind.bits .u8) 15).toNat:Nat)))))else if decide (a>=240)then if decide (a<248)then some (4,(yI ((IntKind.u8.wrap ((BitVec.ofInt (IntKind.bits .u8) a&&&BitVec.ofInt (IntKind.bits .u8) 7).toNat:Nat)))))else some (0,0)else some (0,0)else if decide (a>=240)then if decide (a<248)then some (4,(yI ((IntKind.u8.wrap ((BitVec.ofInt (IntKind.bits .u8) a&&&BitVec.ofInt (IntKind.bits .u8) 7).toNat:Nat)))))else some (0,0)else some (0,0)
theorem zXF{b a}:Cz (zOY b a) 273 [] [.val (.int .u8 a)] (λr=>.tup [ai r.1,ai r.2]) (λ_=>[]) 0:=fw func273<|rB 0 (fE 1)<|rB 0 (rB 0 (fE 2)<|rB 0 (rB 0 (fE 2)<|rB 0 (rB 0 (fE 2)<|fE 0)<|fE 0)<|rB 0 (rB 0 (fE 2)<|fE 0)<|fE 0)<|rB 0 (rB 0 (fE 2)<|rB 0 (rB 0 (fE 2)<|fE 0)<|fE 0)<|rB 0 (rB 0 (fE 2)<|fE 0)<|fE 0
def zFi(b:Nat)(a:Int):Option (Int):=if decide (a>=65536)then some 4 else if decide (a>=2048)then some 3 else if decide (a>=128)then some 2 else some 1
theorem zVh{b a}:Cz (zFi b a) 274 [] [ai a] (λr=>ai r) (λ_=>[]) 0:=fw func274<|rB 0 (fE 3)<|rB 0 (fE 2)<|rB 0 (fE 1)<|fE 0
def gX:Nat->ByteArray->Int->(Int×Int)->Int->Int->Option (Int×Int×Int)
 |0,_,_,_,_,_=>none|c+1,b,a,r5,d,e=>if decide (e<r5.1)then I7 b (yI (a+e))>>=λx10=>if(IntKind.u8.wrap ((BitVec.ofInt (IntKind.bits .u8) x10&&&BitVec.ofInt (IntKind.bits .u8) 192).toNat:Nat))!=128 then some (0,0,1)else gX c b a r5 (IntKind.i64.wrap ((BitVec.ofInt (IntKind.bits .i64) (yI (d*2^(min (Int.toNat 6) (IntKind.bits .i64))))|||BitVec.ofInt (IntKind.bits .i64) (yI ((IntKind.u8.wrap ((BitVec.ofInt (IntKind.bits .u8) x10&&&BitVec.ofInt (IntKind.bits .u8) 63).toNat:Nat))))).toNat:Nat)) (yI (e+1))else zFj c d>>=λr13=>if r13 then zFi c d>>=λr16=>if r16 !=r5.1 then some (0,0,1)else some (d,r5.1,0)else some (0,0,1)
def zOZ(c:Nat)(b:ByteArray)(a:Int):Option (Int×Int×Int):=if decide (a<0)then some (0,0,1)else if decide (a>=(b.size:Int))then some (0,0,1)else I7 b a>>=λx3=>zOY c x3>>=λr5=>if r5.1==0 then some (0,0,1)else if decide (r5.1>(yI ((b.size:Int)-a)))then some (0,0,1)else gX c b a r5 r5.2 1
theorem zPz:∀c:Nat,∀b a r5 d e,Lz (gX c b a r5 d e) 0 f222 (pt 65461 f222) (λj=>sp j 66 0 [(0,at' b),(1,ai a),(7,ai r5.1),(8,ai d),(9,ai e)]) ⟨[],0,[],0,[]⟩ (λr=>.tup [ai r.1,ai r.2.1,ai r.2.2]) (λ_=>[]) 0 [.blk 0,.seq (pt 1023 f222)]:=xC (λ_ _ _ _ _=>lN) λc ih=>λb a r5 d e=>lw λ_=>rB 0 (rA 1 zFv λ_=>rB 1 (lE 0)<|lH 5 [] [] [] [0,1,7,8,9] (ih _ _ _ _ _))<|rK 0 [] zOX (λ_=>rC 1 [] zVh λ_=>rB 0 (lE 0)<|lE 0) λ_=>lE 1
theorem zXG{c b a}:Cz (zOZ c b a) 222 [] [at' b,ai a] (λr=>.tup [ai r.1,ai r.2.1,ai r.2.2]) (λ_=>[]) 0:=fw func222<|rB 0 (fE 0)<|rB 1 (fE 0)<|rA 0 zFv λ_=>rC 0 [] zXF λ_=>rB 2 (fE 0)<|rB 2 (fE 0)<|fH 0 [] [] [] [0,1,7,8,9] (zPz _ _ _ _ _ _)
def gY:Nat->ByteArray->yH->Int->Option (yH×Int×Int)|0,_,_,_=>none|b+1,a,d,c=>if decide (c<(a.size:Int))then zOZ b a c>>=λr3=>if r3.2.2 !=0 then some ([],c,r3.2.2)else yW 8 d [r3.1]>>=λl6=>gY b a l6 (yI (c+r3.2.1))else some (d,(a.size:Int),0)
def zLZ(b:Nat)(a:ByteArray):Option (yH×Int×Int):=if decide ((a.size:Int)>65535)then some ([],0,2)else gY b a [] 0
theorem zPy:∀b:Nat,∀a d c,Lz (gY b a d c) 0 f168 (pt 16309 f168) (λj=>sp j 38 0 [(0,at' a),(5,zB zQ d (.st 0 1)),(6,ai c)]) ⟨[],0,[0],1,[]⟩ (λr=>.tup [.sl (zI zQ r.1) r.1.length .no,ai r.2.1,ai r.2.2]) (λ_=>[]) 0 [.blk 0,.seq (pt 255 f168)]:=xC (λ_ _ _=>lN) λb ih=>λa d c=>lw λ_=>rB 1 (rC 0 [] zXG λ_=>rB 3 (lE 0)<|rW (λh7=>oP 1 (nX h7 (by simp))) λ_=>lH 1 [] [] [1] [0,5,6] (ih _ _ _))<|lE 1
theorem zVg{b a}:Cz (zLZ b a) 168 [] [at' a] (λr=>.tup [.sl (zI zQ r.1) r.1.length .no,ai r.2.1,ai r.2.2]) (λ_=>[]) 0:=fw func168<|rB 1 (fE 0)<|fH 0 [(none,5,1)] [] [0] [0,5,6] (zPy _ _ _ _)
def zJx(b:Nat)(a:ByteArray):Option (Bool):=if a.toList==(⟨#[100,97,116,97]⟩:ByteArray).toList then some true else if a.toList==(⟨#[114,101,99,111,114,100]⟩:ByteArray).toList then some true else if a.toList==(⟨#[100,101,102]⟩:ByteArray).toList then some true else if a.toList==(⟨#[83,101,116]⟩:ByteArray).toList then some true else some false
theorem zSK{b a}:Cz (zJx b a) 178 [] [at' a] (λr=>ab r) (λ_=>[]) 0:=fw func178<|rB 0 (fE 0)<|rB 0 (fE 0)<|rB 0 (fE 0)<|rB 0 (fE 0)<|fE 0
def zPx(b:Nat)(a:Int):Option (Bool):=if a==40 then some true else if a==41 then some true else if a==123 then some true else if a==125 then some true else if a==58 then some true else if a==61 then some true else if a==46 then some true else if a==44 then some true else if a==59 then some true else if a==124 then some true else if a==92 then some true else if a==45 then some true else if a==62 then some true else if a==955 then some true else if a==8594 then some true else some false
theorem zXH{b a}:Cz (zPx b a) 240 [] [ai a] (λr=>ab r) (λ_=>[]) 0:=fw func240<|rB 0 (fE 0)<|rB 0 (fE 0)<|rB 0 (fE 0)<|rB 0 (fE 0)<|rB 0 (fE 0)<|rB 0 (fE 0)<|rB 0 (fE 0)<|rB 0 (fE 0)<|rB 0 (fE 0)<|rB 0 (fE 0)<|rB 0 (fE 0)<|rB 0 (fE 0)<|rB 0 (fE 0)<|rB 0 (fE 0)<|rB 0 (fE 0)<|fE 0
def zFh(b:Nat)(a:Int):Option (Bool):=if decide (a<128)then if decide (a>=97)then if decide (a<=122)then some true else if decide (a>=65)then some (decide (a<=90))else some false else if decide (a>=65)then some (decide (a<=90))else some false else zFj b a>>=λr6=>if r6 then zPx b a>>=λr9=>if r9 then some false else if a !=160 then if decide (a<8192)then some true else some (decide (a>8303))else some false else some false
theorem zPw{b a}:Cz (zFh b a) 180 [] [ai a] (λr=>ab r) (λ_=>[]) 0:=fw func180<|rB 0 (rB 0 (rB 0 (fE 0)<|rB 0 (fE 1)<|fE 0)<|rB 0 (fE 1)<|fE 0)<|rK 0 [] zOX (λ_=>rK 0 [] zXH (λ_=>fE 1) λ_=>rB 1 (rB 0 (fE 0)<|fE 1)<|fE 0) λ_=>fE 0
def zDo(b:Nat)(a:Int):Option (Bool):=if decide (a>=48)then some (decide (a<=57))else some false
theorem zMz{b a}:Cz (zDo b a) 231 [] [ai a] (λr=>ab r) (λ_=>[]) 0:=fw func231<|rB 0 (fE 1)<|fE 0
def zPv(b:Nat)(a:Int):Option (Bool):=zFh b a>>=λr1=>if r1 then some true else zDo b a>>=λr4=>if r4 then some true else if a==95 then some true else some (a==39)
theorem zXI{b a}:Cz (zPv b a) 179 [] [ai a] (λr=>ab r) (λ_=>[]) 0:=fw func179<|rK 0 [] zPw (λ_=>fE 0) λ_=>rK 0 [] zMz (λ_=>fE 0) λ_=>rB 0 (fE 0)<|fE 1
def gZ:Nat->(yH×Int×Int)->Int->Option (Bool)
 |0,_,_=>none|b+1,r1,a=>if decide (a<(r1.1.length:Int))then zM r1.1 a>>=λx10=>zPv b x10>>=λr12=>if r12 then gZ b r1 (yI (a+1))else some false else zM r1.1 0>>=λx15=>zFh b x15>>=λr17=>if r17 then some true else if x15==95 then some (decide ((r1.1.length:Int)>1))else some false
def lP(b:Nat)(c:ByteArray):Option (Bool):=zLZ b c>>=λr1=>if r1.2.2 !=0 then some false else if(r1.1.length:Int)==0 then some false else if decide ((c.size:Int)>40)then some false else zJx b c>>=λr6=>if r6 then some false else gZ b r1 0
theorem zPu:∀b:Nat,∀r1 a,Lz (gZ b r1 a) 0 f116 (pt 16309 f116) (λj=>sp j 55 0 [(3,zB zQ r1.1 .no),(30,zB zQ r1.1 .no),(31,ai (r1.1.length:Int)),(32,ai a)]) ⟨[],0,[],0,[]⟩ (λr=>ab r) (λ_=>[]) 0 [.blk 0,.seq (pt 255 f116)]:=xC (λ_ _=>lN) λb ih=>λr1 a=>lw λ_=>rB 0 (rA 0 (pZ (o:=.no)) λ_=>rK 1 [] zXI (λ_=>lH 2 [] [] [] [3,30,31,32] (ih _ _)) λ_=>lE 1)<|rH λ_ h16=>rS (oA 0 (pZ (o:=.no) h16))<|rK 1 [] zPw (λ_=>lE 0) λ_=>rS (oA 0 (pZ (o:=.no) h16))<|rB 1 (lE 2)<|lE 0
theorem aJ{b c}:Cz (lP b c) 116 [] [at' c] (λr=>ab r) (λ_=>[]) 0:=fw func116<|rC 0 [] zVg λ_=>rB 3 (fE 0)<|rB 1 (fE 0)<|rB 1 (fE 0)<|rK 0 [] zSK (λ_=>fE 0) λ_=>fH 1 [] [] [] [3,30,31,32] (zPu _ _ _)
def E1:Nat->(List ByteArray)->Int->(List (ByteArray×Int))->Option (Bool)|0,_,_,_=>none|c+1,b,d,a=>if decide (d<(b.length:Int))then zM b d>>=λx2=>if decide ((R8 a x2)>0)then some false else E1 c b (yI (d+1)) (L5 a x2 (yI ((R8 a x2)+1)))else some true
def e87(c:Nat)(b:List ByteArray):Option (Bool):=E1 c b 0 ([]:List (ByteArray×Int))
theorem zSL:∀c:Nat,∀b d a,Lz (E1 c b d a) 0 f87 (pt 4021 f87) (λj=>sp j 22 0 [(3,.obj 0),(7,zB xE b .no),(8,ai (b.length:Int)),(9,ai d)]) ⟨[(0,R7 a)],1,[],0,[]⟩ (λr=>ab r) (λ_=>[]) 0 [.blk 0,.seq (pt 63 f87)]:=xC (λ_ _ _=>lN) λc ih=>λb d a=>lw λ_=>rB 0 (rA 0 (zOD (o:=.no)) λx2=>rS (oL 1 (zHw a x2))<|rB 0 (lE 0)<|rS (oL 0 (zHw a x2))<|rS (oU 1 (zRT a x2 (yI ((R8 a x2)+1))))<|lH 1 [] [0] [] [3,7,8,9] (ih _ _ _))<|lE 0
theorem c87{c b}:Cz (e87 c b) 87 [] [zB xE b .no] (λr=>ab r) (λ_=>[]) 0:=fw func87<|fH 1 [] [0] [] [3,7,8,9] (zSL _ _ _ _)
theorem zMy(c:Int):zD (λq=>zOY q c) λr=>0<=r.1/\r.1<=4:=by simp only[zOY];repeat'(first|exact zD.ret ⟨by simp,by simp⟩|refine zD.ite (λ_=>?_) (λ_=>?_))
theorem zJw(n:Int):zD (λq=>zFi q n) λ_=>True:=by simp only[zFi];repeat'(first|exact zD.ret trivial|refine zD.ite (λ_=>?_) (λ_=>?_))
theorem kU(n:Int):zD (λq=>zFj q n) λ_=>True:=by simp only[zFj];repeat'(first|exact zD.ret trivial|refine zD.ite (λ_=>?_) (λ_=>?_))
theorem U2{s:ByteArray}{i:Int}(h0:0<=i)(h1:i<s.size):∃c,I7 s i=some c:=by unfold I7;simp[h0,h1]
theorem zJv(s:ByteArray)(a:Int)(w:Int×Int)(ha:0<=a)(hs:s.size<=65535)(hw:a+w.1<=s.size)(hw1:1<=w.1):∀(m:Nat)(i n:Int),1<=i->i+m=w.1->zD (λq=>gX q s a w n i) λr=>r.2.2=0->r.2.1=w.1:=by intro m;induction m with|zero=>intro i n hi hm;refine zD.succ ?_;simp only[gX];refine zD.ite (λh=>absurd (of_decide_eq_true h) (by omega)) λ_=>(kU n).bind λb _=>?_;refine zD.ite (λ_=>(zJw n).bind λc _=>zD.ite (λ_=>zD.ret (by simp)) λ_=>zD.ret (by simp)) λ_=>zD.ret (by simp)|succ m ih=>intro i n hi hm;refine zD.succ ?_;simp only[gX];obtain⟨c,hc⟩:=U2 (s:=s) (i:=a+i) (by omega) (by omega);refine zD.ite (λ_=>zD.pure (a:=c) (by rw[zS (by omega) (by omega)];exact hc) (zD.ite (λ_=>zD.ret (by simp)) λ_=>?_)) λh=>absurd (of_decide_eq_false h) (by omega);rw[zS (x:=i+1) (by omega) (by omega)];exact ih (i+1) _ (by omega) (by omega)
theorem zMx(s:ByteArray)(a:Int)(ha:0<=a)(hs:s.size<=65535):zD (λq=>zOZ q s a) λr=>r.2.2=0->1<=r.2.1/\a+r.2.1<=s.size:=by
 simp only[zOZ];refine zD.ite (λ_=>zD.ret (by simp)) λ_=>zD.ite (λ_=>zD.ret (by simp)) λh=>?_;have h1:=of_decide_eq_false h;obtain⟨c,hc⟩:=U2 (s:=s) (i:=a) ha (by omega);refine zD.pure hc ((zMy c).bind λw hw=>zD.ite (λ_=>zD.ret (by simp)) λh2=>zD.ite (λ_=>zD.ret (by simp)) λh3=>?_);have h4:=of_decide_eq_false h3;rw[zS (by omega) (by omega)]at h4;have h5:w.1≠0:=by simpa using h2
 refine(zJv s a w ha hs (by omega) (by omega) (w.1-1).toNat 1 w.2 (by omega) (by omega)).mono λr hr h6=>?_;have:=hr h6;omega
theorem zMw(s:ByteArray)(hs:s.size<=65535):∀(m:Nat)(a:Int)(acc:List Int),0<=a->a<=s.size->(s.size:Int)-a<=m->(acc.length:Int)<=a->zD (λq=>gY q s acc a) λr=>r.1.length<=65535:=by intro m;induction m with|zero=>intro a acc h0 h1 hm hl;refine zD.succ ?_;simp only[gY];refine zD.ite (λh=>absurd (of_decide_eq_true h) (by omega)) λ_=>zD.ret (by show acc.length<=65535;omega)|succ m ih=>intro a acc h0 h1 hm hl;refine zD.succ ?_;simp only[gY];refine zD.ite (λ_=>(zMx s a h0 hs).bind λr hr=>zD.ite (λ_=>zD.ret (by simp)) λh=>zD.pure (zW (by simp<;>omega)) ?_) λ_=>zD.ret (by show acc.length<=65535;omega);have:=hr (by simpa using h);rw[zS (by omega) (by omega)];exact ih (a+r.2.1) _ (by omega) (by omega) (by omega) (by simp;omega)
theorem zBy(s:ByteArray):zD (λq=>zLZ q s) λr=>r.1.length<=65535:=by simp only[zLZ];refine zD.ite (λ_=>zD.ret (by simp)) λh=>?_;have:=of_decide_eq_false h;exact zMw s (by omega) s.size 0 [] (by omega) (by omega) (by omega) (by simp)
theorem zMv(n:Int):zD (λq=>zPx q n) λ_=>True:=by simp only[zPx];repeat'(first|exact zD.ret trivial|refine zD.ite (λ_=>?_) (λ_=>?_))
theorem kV(n:Int):zD (λq=>zFh q n) λ_=>True:=by simp only[zFh];repeat'(first|exact zD.ret trivial|refine zD.ite (λ_=>?_) (λ_=>?_)|refine zD.bind (kU n) (λ_ _=>?_)|refine zD.bind (zMv n) (λ_ _=>?_))
theorem lQ(n:Int):zD (λq=>zDo q n) λ_=>True:=by simp only[zDo];repeat'(first|exact zD.ret trivial|refine zD.ite (λ_=>?_) (λ_=>?_))
theorem zJu(n:Int):zD (λq=>zPv q n) λ_=>True:=by simp only[zPv];repeat'(first|exact zD.ret trivial|refine zD.ite (λ_=>?_) (λ_=>?_)|refine zD.bind (kV n) (λ_ _=>?_)|refine zD.bind (lQ n) (λ_ _=>?_))
theorem mA(s:ByteArray):zD (λq=>zJx q s) λ_=>True:=by simp only[zJx];repeat'(first|exact zD.ret trivial|refine zD.ite (λ_=>?_) (λ_=>?_))
theorem iT(r1:List Int×Int×Int)(h0:0<r1.1.length)(h1:r1.1.length<=65535):∀(l:List Int)(v:Nat),r1.1.drop v=l->zD (λq=>gZ q r1 (v:Int)) λ_=>True
 |[],v,hd=>by
  refine zD.succ ?_;simp only[gZ];obtain⟨y,hy⟩:∃y,zM r1.1 0=some y:=⟨_,by unfold zM;rw[if_pos (by omega)];exact List.getElem?_eq_getElem h0⟩;refine zD.ite (λh=>?_) λ_=>zD.pure hy ?_;·rw[yF hd]at h;cases h
  ·repeat'(first|exact zD.ret trivial|refine zD.ite (λ_=>?_) (λ_=>?_)|refine zD.bind (kV y) (λ_ _=>?_))|x::l,v,hd=>by
  have hlt:=yK hd;refine zD.succ ?_;simp only[gZ];refine zD.ite (λ_=>zD.pure (yA hd) ((zJu x).bind λb _=>zD.ite (λ_=>?_) λ_=>zD.ret trivial)) λh=>?_
  ·rw[zV v (by omega)];exact iT r1 h0 h1 l (v+1) (zU hd)
  ·rw[yD hd]at h;cases h
theorem tL(s:ByteArray):zD (λq=>lP q s) λ_=>True:=by simp only[lP];refine(zBy s).bind λr hr=>zD.ite (λ_=>zD.ret trivial) λ_=>zD.ite (λ_=>zD.ret trivial) λh=>zD.ite (λ_=>zD.ret trivial) λ_=>(mA s).bind λ_ _=>zD.ite (λ_=>zD.ret trivial) λ_=>?_;exact iT r (by simp at h;exact List.length_pos_iff.2 h) hr r.1 0 rfl
theorem dK:∀(r l:List ByteArray)(v:Nat)(m:List (ByteArray×Int)),l.drop v=r->l.length<=65535->zD (λq=>E1 q l (v:Int) m) λ_=>True
 |[],l,v,m,hd,hl=>by refine zD.succ ?_;simp only[E1];refine zD.ite (λh=>?_) λ_=>zD.ret trivial;rw[yF hd]at h;cases h|x::r,l,v,m,hd,hl=>by
  have hlt:=yK hd;refine zD.succ ?_;simp only[E1];refine zD.ite (λ_=>zD.pure (yA hd) (zD.ite (λ_=>zD.ret trivial) λ_=>?_)) λh=>?_;·rw[zV v (by omega)];exact dK r l (v+1) _ (zU hd) hl
  ·rw[yD hd]at h;cases h
theorem zBx(l:List ByteArray)(hl:l.length<=65535):zD (λq=>e87 q l) λ_=>True:=by simp only[e87];exact dK l l 0 _ rfl hl
def fA:Nat->Int->(List U8)->Int->Int->(List U8)->Option (ByteArray×Int)|0,_,_,_,_,_=>none|e+1,r4,x7,f,m,d=>if decide (m>0)then nS x7.length m>>=λx10=>eW d x10 (IntKind.u8.wrap ((BitVec.ofInt (IntKind.bits .u8) 128|||BitVec.ofInt (IntKind.bits .u8) (IntKind.u8.wrap ((IntKind.i64.wrap ((BitVec.ofInt (IntKind.bits .i64) f&&&BitVec.ofInt (IntKind.bits .i64) 63).toNat:Nat))))).toNat:Nat))>>=λx12=>fA e r4 x7 (Int.fdiv f (2^(min (Int.toNat 6) (IntKind.bits .i64)))) (yI (m-1)) x12 else zOa 3840 r4>>=λx14=>nS x7.length 0>>=λx16=>eW d x16 (IntKind.u8.wrap ((IntKind.i64.wrap ((BitVec.ofInt (IntKind.bits .i64) (IntKind.i64.wrap ((BitVec.ofInt (IntKind.bits .i64) x14&&&BitVec.ofInt (IntKind.bits .i64) 255).toNat:Nat))|||BitVec.ofInt (IntKind.bits .i64) f).toNat:Nat))))>>=λx18=>gtx x7.length x18>>=λx20=>some (x20,0)
def zMu(e:Nat)(g:Int):Option (ByteArray×Int):=zFj e g>>=λr1=>if r1 then zFi e g>>=λr4=>if r4==1 then some ((rG [(IntKind.u8.wrap (g))]),0)else gmk 1 (default:U8) r4>>=λx7=>fA e r4 x7 g (yI (r4-1)) x7 else some ((⟨#[]⟩:ByteArray),16)
theorem zPt:∀e:Nat,∀r4 x7 f m d,Lz (fA e r4 x7 f m d) 0 f223 (pt 262069 f223) (λj=>sp j 47 0 [(0,ai f),(4,ai r4),(5,.ms 0 0 x7.length x7.length 1),(6,ai m)]) ⟨[(0,.row (zI cC d))],1,[],0,[]⟩ (λr=>.tup [at' r.1,ai r.2]) (λ_=>[]) 0 [.blk 0,.seq (pt 4095 f223)]:=xC (λ_ _ _ _ _=>lN) λe ih=>λr4 x7 f m d=>lw λ_=>rB 0 (rA 3 (zLe (b:=0) (c:=List.length x7) (z:=1)) λ_=>rW (λh13=>oW 0 (zLy (x:=(IntKind.u8.wrap ((BitVec.ofInt (IntKind.bits .u8) 128|||BitVec.ofInt (IntKind.bits .u8) (IntKind.u8.wrap ((IntKind.i64.wrap ((BitVec.ofInt (IntKind.bits .i64) f&&&BitVec.ofInt (IntKind.bits .i64) 63).toNat:Nat))))).toNat:Nat))) (a:=(λz=>.val (.int .u8 z))) Q7 (λ_=>rfl) (λ_=>⟨rfl,rfl⟩) h13)) λ_=>lH 2 [] [0] [] [0,4,5,6] (ih _ _ _ _ _))<|rA 0 (zSf (P:=prog) (t:=3)) λx14=>rA 3 (zLe (b:=0) (c:=List.length x7) (z:=1)) λ_=>rW (λh19=>oW 0 (zLy (x:=(IntKind.u8.wrap ((IntKind.i64.wrap ((BitVec.ofInt (IntKind.bits .i64) (IntKind.i64.wrap ((BitVec.ofInt (IntKind.bits .i64) x14&&&BitVec.ofInt (IntKind.bits .i64) 255).toNat:Nat))|||BitVec.ofInt (IntKind.bits .i64) f).toNat:Nat))))) (a:=(λz=>.val (.int .u8 z))) Q7 (λ_=>rfl) (λ_=>⟨rfl,rfl⟩) h19)) λ_=>rW (λh21=>oCv 0 (zLg h21)) λ_=>lE 0
theorem zVe{e g}:Cz (zMu e g) 223 [] [ai g] (λr=>.tup [at' r.1,ai r.2]) (λ_=>[]) 0:=fw func223<|rK 0 [] zOX (λ_=>rC 1 [] zVh λ_=>rB 0 (rS (oA 2 (tQ [(IntKind.u8.wrap (g))] (o:=.full)))<|fE 0)<|rW (λh8=>oM 0 (zSC h8)) λ_=>fH 1 [] [0] [] [0,4,5,6] (zPt _ _ _ _ _ _)) λ_=>fE 1
def fB:Nat->yH->Int->yH->Int->Option yH|0,_,_,_,_=>none|c+1,b,a,d,e=>if decide (a<(b.length:Int))then zM b a>>=λx2=>yW 8 d [e]>>=λl4=>zMu c x2>>=λr6=>fB c b (yI (a+1)) l4 (yI (e+(r6.1.size:Int)))else some d
def zPs(c:Nat)(b:yH):Option yH:=fB c b 0 [] 0
theorem zPr:∀c:Nat,∀b a d e,Lz (fB c b a d e) 0 f169 (pt 16309 f169) (λj=>sp j 30 0 [(3,zB zQ d (.st 0 1)),(4,ai e),(9,zB zQ b .no),(10,ai (b.length:Int)),(11,ai a)]) ⟨[],0,[0],1,[]⟩ (λr=>.sl (zI zQ r) r.length .no) (λ_=>[]) 0 [.blk 0,.seq (pt 255 f169)]:=xC (λ_ _ _ _=>lN) λc ih=>λb a d e=>lw λ_=>rB 0 (rA 0 (pZ (o:=.no)) λ_=>rW (λh5=>oP 2 (nX h5 (by simp))) λ_=>rC 0 [] zVe λ_=>lH 5 [] [] [1] [3,4,9,10,11] (ih _ _ _ _))<|lE 0
theorem zXJ{c b}:Cz (zPs c b) 169 [] [zB zQ b .no] (λr=>.sl (zI zQ r) r.length .no) (λ_=>[]) 0:=fw func169<|fH 1 [(none,3,1)] [] [0] [3,4,9,10,11] (zPr _ _ _ _ _)
def zPq(b:Nat)(a:Int):Option (Bool):=if a==9 then some true else if a==10 then some true else if a==13 then some true else some (a==32)
theorem zXK{b a}:Cz (zPq b a) 224 [] [ai a] (λr=>ab r) (λ_=>[]) 0:=fw func224<|rB 0 (fE 0)<|rB 0 (fE 0)<|rB 0 (fE 0)<|fE 1
def L7(e:Nat)(a c:yH)(b d:Int):Option (Int):=if decide ((yI (b+d))>=(a.length:Int))then some (-1)else zM a (yI (b+d))>>=λx2=>some x2
theorem zBw{e a c b d}:Cz (L7 e a c b d) 225 [.cells [zB zQ a .no,zB zQ c .no,ai b]] [.mp 0 0,ai d] (λr=>ai r) (λ_=>[.cells [zB zQ a .no,zB zQ c .no,ai b]]) 0:=fw func225<|rB 4 (fE 0)<|rA 3 (pZ (o:=.no)) λ_=>fE 1
def zDn(d:Nat)(a b:yH)(c e f:Int):Option (Bool):=L7 d a b c 0>>=λr1=>if r1==e then L7 d a b c 1>>=λr4=>some (r4==f)else some false
theorem zMt{d a b c e f}:Cz (zDn d a b c e f) 226 [.cells [zB zQ a .no,zB zQ b .no,ai c]] [.mp 0 0,ai e,ai f] (λr=>ab r) (λ_=>[.cells [zB zQ a .no,zB zQ b .no,ai c]]) 0:=fw func226<|rC 0 [0] zBw λ_=>rB 0 (rC 0 [0] zBw λ_=>fE 1)<|fE 0
def aK:Nat->yH->yH->Int->Option (Int)|0,_,_,_=>none|e+1,a,b,c=>if decide (c<(a.length:Int))then L7 e a b c 0>>=λr2=>if r2 !=10 then aK e a b (yI (c+1))else some c else some c
def zSM(e:Nat)(a b:yH)(d:Int):Option (Int):=aK e a b d
theorem zPp:∀e:Nat,∀a b c,Lz (aK e a b c) 1 f227 (pt 5 f227) (λj=>sp j 24 0 [(0,.mp 0 0)]) ⟨[(0,.cells [zB zQ a .no,zB zQ b .no,ai c])],1,[],0,[]⟩ (λ_=>.tup []) (λr=>[.cells [zB zQ a .no,zB zQ b .no,ai r]]) 0 [.blk 0]:=xC (λ_ _ _=>lN) λe ih=>λa b c=>lw λ_=>rB 3 (rC 0 [0] zBw λ_=>rB 0 (lH 3 [] [0] [] [0] (ih _ _ _))<|lE 0)<|lE 0
theorem zXL{e a b d}:Cz (zSM e a b d) 227 [.cells [zB zQ a .no,zB zQ b .no,ai d]] [.mp 0 0] (λ_=>.tup []) (λr=>[.cells [zB zQ a .no,zB zQ b .no,ai r]]) 0:=fw func227<|fH 0 [] [0] [] [0] (zPp _ _ _ _)
def mC:Nat->yH->yH->Int->Int->Option (Bool×Int)
 |0,_,_,_,_=>none|e+1,a,b,f,c=>if decide (c<(a.length:Int))then zDn e a b c 123 45>>=λr2=>if r2 then mC e a b (yI (f+1)) (yI (c+2))else zDn e a b c 45 125>>=λr5=>if r5 then if(yI (f-1))==0 then some (((yI (f-1))==0),(yI (c+2)))else mC e a b (yI (f-1)) (yI (c+2))else mC e a b f (yI (c+1))else some ((f==0),c)
def zSN(e:Nat)(a b:yH)(d:Int):Option (Bool×Int):=mC e a b 0 d
theorem zPo:∀e:Nat,∀a b f c,Lz (mC e a b f c) 1 f228 (pt 14309 f228) (λj=>sp j 49 0 [(0,.mp 0 0),(3,ai f)]) ⟨[(0,.cells [zB zQ a .no,zB zQ b .no,ai c])],1,[],0,[]⟩ (λr=>ab r.1) (λr=>[.cells [zB zQ a .no,zB zQ b .no,ai r.2]]) 0 [.blk 0,.seq (pt 895 f228)]:=xC (λ_ _ _ _=>lN) λe ih=>λa b f c=>lw λ_=>rB 3 (rK 0 [0] zMt (λ_=>lH 4 [] [0] [] [0,3] (ih _ _ _ _)) λ_=>rK 0 [0] zMt (λ_=>rB 4 (lE 1)<|lH 0 [] [0] [] [0,3] (ih _ _ _ _)) λ_=>lH 3 [] [0] [] [0,3] (ih _ _ _ _))<|lE 1
theorem zXM{e a b d}:Cz (zSN e a b d) 228 [.cells [zB zQ a .no,zB zQ b .no,ai d]] [.mp 0 0] (λr=>ab r.1) (λr=>[.cells [zB zQ a .no,zB zQ b .no,ai r.2]]) 0:=fw func228<|fH 0 [] [0] [] [0,3] (zPo _ _ _ _ _)
def mD:Nat->yH->yH->Int->Option (Int×Bool×Int)
 |0,_,_,_=>none|d+1,a,b,c=>if decide (c<(a.length:Int))then L7 d a b c 0>>=λr2=>zPq d r2>>=λr4=>if r4 then mD d a b (yI (c+1))else zDn d a b c 45 45>>=λr7=>if r7 then zSM d a b c>>=λr10=>mD d a b r10 else zDn d a b c 123 45>>=λr12=>if r12 then zSN d a b c>>=λr15=>if r15.1 then mD d a b r15.2 else zM b c>>=λx18=>some (x18,false,r15.2)else some (0,true,c)else some (0,true,c)
def zSO(d:Nat)(a b:yH)(e:Int):Option (Int×Bool×Int):=mD d a b e
theorem zPn:∀d:Nat,∀a b c,Lz (mD d a b c) 1 f170 (pt 229 f170) (λj=>sp j 48 0 [(0,.mp 0 0)]) ⟨[(0,.cells [zB zQ a .no,zB zQ b .no,ai c])],1,[],0,[]⟩ (λr=>.tup [ai r.1,ab r.2.1]) (λr=>[.cells [zB zQ a .no,zB zQ b .no,ai r.2.2]]) 0 [.blk 0,.seq (pt 15 f170)]:=xC (λ_ _ _=>lN) λd ih=>λa b c=>lw λ_=>rB 3 (rC 0 [0] zBw λ_=>rK 0 [] zXK (λ_=>lH 3 [] [0] [] [0] (ih _ _ _)) λ_=>rK 0 [0] zMt (λ_=>rC 0 [0] zXL λ_=>lH 0 [] [0] [] [0] (ih _ _ _)) λ_=>rK 0 [0] zMt (λ_=>rK 1 [0] zXM (λ_=>lH 1 [] [0] [] [0] (ih _ _ _)) λ_=>rA 2 (pZ (o:=.no)) λ_=>lE 1) λ_=>lE 0)<|lE 0
theorem zXN{d a b e}:Cz (zSO d a b e) 170 [.cells [zB zQ a .no,zB zQ b .no,ai e]] [.mp 0 0] (λr=>.tup [ai r.1,ab r.2.1]) (λr=>[.cells [zB zQ a .no,zB zQ b .no,ai r.2.2]]) 0:=fw func170<|fH 0 [] [0] [] [0] (zPn _ _ _ _)
def fC:Nat->yH->Int->(List U8)->Option (ByteArray×Int)|0,_,_,_=>none|b+1,a,c,e=>if decide (c<(a.length:Int))then zM a c>>=λx8=>zMu b x8>>=λr10=>if decide ((yI ((e.length:Int)+(r10.1.size:Int)))>65535)then some ((⟨#[]⟩:ByteArray),2)else yW 1 e (gbs r10.1)>>=λl13=>fC b a (yI (c+1)) l13 else some ((rG e),0)
def fD:Nat->yH->Int->Option (ByteArray×Int)|0,_,_=>none|b+1,a,d=>if decide (d<(a.length:Int))then zM a d>>=λx2=>zFj b x2>>=λr4=>if r4 then fD b a (yI (d+1))else some ((⟨#[]⟩:ByteArray),16)else fC b a 0 []
def zBv(b:Nat)(a:yH):Option (ByteArray×Int):=fD b a 0
theorem zPm:∀b:Nat,∀a c e,Lz (fC b a c e) 0 f275 (pt 16309 f275) (λj=>sp j 44 0 [(6,zB cC e (.st 0 1)),(21,zB zQ a .no),(22,ai (a.length:Int)),(23,ai c)]) ⟨[],0,[0],1,[]⟩ (λr=>.tup [at' r.1,ai r.2]) (λ_=>[]) 0 [.blk 2,.seq (pt 255 f275)]:=xC (λ_ _ _=>lN) λb ih=>λa c e=>lw λ_=>rB 0 (rA 0 (pZ (o:=.no)) λ_=>rC 1 [] zVe λr10=>rB 5 (lE 0)<|rH λ_ h14=>rZ (List.length (gbs r10.1)=0) (λh15=>rS (oPs 0 (zIP h14 h15))<|lH 1 [] [] [0] [6,21,22,23] (ih _ _ _)) λh15=>rS (oPs 0 (zLh h14 h15))<|lH 1 [] [] [1] [6,21,22,23] (ih _ _ _))<|rS (oA 0 (tQ e (o:=(.st 0 1))))<|lE 0
theorem zPl:∀b:Nat,∀a d,Lz (fD b a d) 0 f275 (pt 949 f275) (λj=>sp j 44 0 [(0,zB zQ a .no),(11,zB zQ a .no),(12,ai (a.length:Int)),(13,ai d)]) ⟨[],0,[],0,[]⟩ (λr=>.tup [at' r.1,ai r.2]) (λ_=>[]) 0 [.blk 0,.seq (pt 15 f275)]:=xC (λ_ _=>lN) λb ih=>λa d=>lw λ_=>rB 0 (rA 0 (pZ (o:=.no)) λ_=>rK 1 [] zOX (λ_=>lH 2 [] [] [] [0,11,12,13] (ih _ _)) λ_=>lE 1)<|lH 1 [(none,6,1)] [] [0] [6,21,22,23] (zPm _ _ _ _)
theorem zPk{b a}:Cz (zBv b a) 275 [] [zB zQ a .no] (λr=>.tup [at' r.1,ai r.2]) (λ_=>[]) 0:=fw func275<|fH 1 [] [] [] [0,11,12,13] (zPl _ _ _)
def pM:Nat->yH->yH->Int->Int->Option (ByteArray×Int)|0,_,_,_,_=>none|e+1,b,c,d,a=>if decide (a<(b.length:Int))then L7 e b c a 0>>=λr2=>zDo e r2>>=λr4=>if r4 then pM e b c d (yI (a+1))else tX b d a>>=λx7=>zBv e x7>>=λr9=>some (r9.1,a)else tX b d a>>=λx11=>zBv e x11>>=λr13=>some (r13.1,a)
def U3(e:Nat)(b c:yH)(d:Int):Option (ByteArray×Int):=pM e b c d d
theorem zDm:∀e:Nat,∀b c d a,Lz (pM e b c d a) 1 f229 (pt 997 f229) (λj=>sp j 50 0 [(0,.mp 0 0),(1,.clo 231 [] []),(5,ai d)]) ⟨[(0,.cells [zB zQ b .no,zB zQ c .no,ai a])],1,[],0,[]⟩ (λr=>at' r.1) (λr=>[.cells [zB zQ b .no,zB zQ c .no,ai r.2]]) 0 [.blk 0,.seq (pt 63 f229)]:=xC (λ_ _ _ _=>lN) λe ih=>λb c d a=>lw λ_=>rB 3 (rC 0 [0] zBw λ_=>rK 0 [] zMz (λ_=>lH 3 [] [0] [] [0,1,5] (ih _ _ _ _)) λ_=>rA 2 zOE λ_=>rC 0 [] zPk λ_=>lE 2)<|rA 2 zOE λ_=>rC 0 [] zPk λ_=>lE 2
theorem zMs{e b c d}:Cz (U3 e b c d) 229 [.cells [zB zQ b .no,zB zQ c .no,ai d]] [.mp 0 0,.clo 231 [] []] (λr=>at' r.1) (λr=>[.cells [zB zQ b .no,zB zQ c .no,ai r.2]]) 0:=fw func229<|fH 1 [] [0] [] [0,1,5] (zDm _ _ _ _ _)
def zMr(b:Nat)(a:Int):Option (Bool):=zFh b a>>=λr1=>if r1 then some true else zDo b a>>=λr4=>if r4 then some true else if a==95 then some true else some (a==39)
theorem zVd{b a}:Cz (zMr b a) 230 [] [ai a] (λr=>ab r) (λ_=>[]) 0:=fw func230<|rK 0 [] zPw (λ_=>fE 0) λ_=>rK 0 [] zMz (λ_=>fE 0) λ_=>rB 0 (fE 0)<|fE 1
def pN:Nat->yH->yH->Int->Int->Option (ByteArray×Int)|0,_,_,_,_=>none|e+1,b,c,d,a=>if decide (a<(b.length:Int))then L7 e b c a 0>>=λr2=>zMr e r2>>=λr4=>if r4 then pN e b c d (yI (a+1))else tX b d a>>=λx7=>zBv e x7>>=λr9=>some (r9.1,a)else tX b d a>>=λx11=>zBv e x11>>=λr13=>some (r13.1,a)
def aL(e:Nat)(b c:yH)(d:Int):Option (ByteArray×Int):=pN e b c d d
theorem zDl:∀e:Nat,∀b c d a,Lz (pN e b c d a) 1 f229 (pt 997 f229) (λj=>sp j 50 0 [(0,.mp 0 0),(1,.clo 230 [] []),(5,ai d)]) ⟨[(0,.cells [zB zQ b .no,zB zQ c .no,ai a])],1,[],0,[]⟩ (λr=>at' r.1) (λr=>[.cells [zB zQ b .no,zB zQ c .no,ai r.2]]) 0 [.blk 0,.seq (pt 63 f229)]:=xC (λ_ _ _ _=>lN) λe ih=>λb c d a=>lw λ_=>rB 3 (rC 0 [0] zBw λ_=>rK 0 [] zVd (λ_=>lH 3 [] [0] [] [0,1,5] (ih _ _ _ _)) λ_=>rA 2 zOE λ_=>rC 0 [] zPk λ_=>lE 2)<|rA 2 zOE λ_=>rC 0 [] zPk λ_=>lE 2
theorem zDk{e b c d}:Cz (aL e b c d) 229 [.cells [zB zQ b .no,zB zQ c .no,ai d]] [.mp 0 0,.clo 230 [] []] (λr=>at' r.1) (λr=>[.cells [zB zQ b .no,zB zQ c .no,ai r.2]]) 0:=fw func229<|fH 1 [] [0] [] [0,1,5] (zDl _ _ _ _ _)
def fI:Nat->ByteArray->Int->Nat->Option (Int×Bool)|0,_,_,_=>none|c+1,b,d,a=>if decide (a<ByteArray.size b)then zDo c (yI (((Utf8.decode b a).1:Int)))>>=λr8=>if r8 then fI c b (yI ((yI (10*d))+(yI ((IntKind.i32.wrap (((Utf8.decode b a).1:Int)-48)))))) (a+(Utf8.decode b a).2)else some (0,false)else some (d,true)
def zMq(c:Nat)(b:ByteArray):Option (Int×Bool):=if b.toList==(⟨#[]⟩:ByteArray).toList then some (0,false)else if decide ((b.size:Int)>3)then some (0,false)else I7 b 0>>=λx3=>if x3==48 then if decide ((b.size:Int)>1)then some (0,false)else fI c b 0 0 else fI c b 0 0
theorem zHh:∀c:Nat,∀b d a,Lz (fI c b d a) 0 f232 (pt 16309 f232) (λj=>sp j 40 0 [(4,ai d),(25,.mp 0 0)]) ⟨[(0,.obj (.stringIter b a))],1,[],0,[]⟩ (λr=>.tup [ai r.1,ab r.2]) (λ_=>[]) 0 [.blk 0,.seq (pt 255 f232)]:=xC (λ_ _ _=>lN) λc ih=>λb d a=>lw λ_=>rI (λh7=>rS (oX 0 (zOA (of_decide_eq_true h7)))<|rK 3 [] zMz (λ_=>lH 5 [] [0] [] [4,25] (ih _ _ _)) λ_=>lE 1) λh7=>rS (oX 0 (zOB (of_decide_eq_false h7)))<|lE 1
theorem zVc{c b}:Cz (zMq c b) 232 [] [at' b] (λr=>.tup [ai r.1,ab r.2]) (λ_=>[]) 0:=fw func232<|rB 0 (fE 0)<|rB 1 (fE 0)<|rA 0 zFv λ_=>rB 0 (rB 1 (fE 0)<|fH 0 [] [0] [] [4,25] (zHh _ _ _ _))<|fH 0 [] [0] [] [4,25] (zHh _ _ _ _)
def zPj(d:Nat)(a b:yH)(c:Int):Option (ByteArray×Int):=L7 d a b c 0>>=λr1=>if r1==40 then some ((rG [(IntKind.u8.wrap (r1))]),1)else if r1==41 then some ((rG [(IntKind.u8.wrap (r1))]),1)else if r1==123 then some ((rG [(IntKind.u8.wrap (r1))]),1)else if r1==125 then some ((rG [(IntKind.u8.wrap (r1))]),1)else if r1==58 then some ((rG [(IntKind.u8.wrap (r1))]),1)else if r1==61 then some ((rG [(IntKind.u8.wrap (r1))]),1)else if r1==46 then some ((rG [(IntKind.u8.wrap (r1))]),1)else if r1==44 then some ((rG [(IntKind.u8.wrap (r1))]),1)else if r1==59 then some ((rG [(IntKind.u8.wrap (r1))]),1)else if r1==124 then some ((rG [(IntKind.u8.wrap (r1))]),1)else if r1==92 then some ((rG [(IntKind.u8.wrap (r1))]),1)else if r1==955 then some ((⟨#[92]⟩:ByteArray),1)else if r1==8594 then some ((⟨#[45,62]⟩:ByteArray),1)else zDn d a b c 45 62>>=λr16=>if r16 then some ((⟨#[45,62]⟩:ByteArray),2)else some ((⟨#[]⟩:ByteArray),0)
theorem zXO{d a b c}:Cz (zPj d a b c) 233 [.cells [zB zQ a .no,zB zQ b .no,ai c]] [.mp 0 0] (λr=>.tup [at' r.1,ai r.2]) (λ_=>[.cells [zB zQ a .no,zB zQ b .no,ai c]]) 0:=fw func233<|rC 0 [0] zBw λr1=>rB 0 (rS (oA 2 (tQ [(IntKind.u8.wrap (r1))] (o:=.full)))<|fE 0)<|rB 0 (rS (oA 2 (tQ [(IntKind.u8.wrap (r1))] (o:=.full)))<|fE 0)<|rB 0 (rS (oA 2 (tQ [(IntKind.u8.wrap (r1))] (o:=.full)))<|fE 0)<|rB 0 (rS (oA 2 (tQ [(IntKind.u8.wrap (r1))] (o:=.full)))<|fE 0)<|rB 0 (rS (oA 2 (tQ [(IntKind.u8.wrap (r1))] (o:=.full)))<|fE 0)<|rB 0 (rS (oA 2 (tQ [(IntKind.u8.wrap (r1))] (o:=.full)))<|fE 0)<|rB 0 (rS (oA 2 (tQ [(IntKind.u8.wrap (r1))] (o:=.full)))<|fE 0)<|rB 0 (rS (oA 2 (tQ [(IntKind.u8.wrap (r1))] (o:=.full)))<|fE 0)<|rB 0 (rS (oA 2 (tQ [(IntKind.u8.wrap (r1))] (o:=.full)))<|fE 0)<|rB 0 (rS (oA 2 (tQ [(IntKind.u8.wrap (r1))] (o:=.full)))<|fE 0)<|rB 0 (rS (oA 2 (tQ [(IntKind.u8.wrap (r1))] (o:=.full)))<|fE 0)<|rB 0 (fE 0)<|rB 0 (fE 0)<|rK 0 [0] zMt (λ_=>fE 0) λ_=>fE 0
def zPi(d:Nat)(a b:yH)(c:Int):Option (zL×Bool×Int):=zM b c>>=λx1=>L7 d a b c 0>>=λr3=>zFh d r3>>=λr5=>if r5 then aL d a b c>>=λr8=>zJx d r8.1>>=λr10=>if r10 then some ((zL.mk 2 r8.1 x1),true,r8.2)else if r8.1.toList==(⟨#[95]⟩:ByteArray).toList then some ((zL.mk 1 r8.1 x1),true,r8.2)else lP d r8.1>>=λr14=>some ((zL.mk 1 r8.1 x1),r14,r8.2)else if r3==95 then aL d a b c>>=λr17=>zJx d r17.1>>=λr19=>if r19 then some ((zL.mk 2 r17.1 x1),true,r17.2)else if r17.1.toList==(⟨#[95]⟩:ByteArray).toList then some ((zL.mk 1 r17.1 x1),true,r17.2)else lP d r17.1>>=λr23=>some ((zL.mk 1 r17.1 x1),r23,r17.2)else zDo d r3>>=λr25=>if r25 then U3 d a b c>>=λr28=>zMq d r28.1>>=λr30=>if r30.2 then L7 d a b r28.2 0>>=λr33=>zMr d r33>>=λr35=>some ((zL.mk 3 r28.1 x1),!r35,r28.2)else some ((zL.mk 3 r28.1 x1),false,r28.2)else zPj d a b c>>=λr37=>some ((zL.mk 4 r37.1 x1),decide (r37.2>0),(yI (c+r37.2)))
theorem zXP{d a b c}:Cz (zPi d a b c) 171 [.cells [zB zQ a .no,zB zQ b .no,ai c]] [.mp 0 0] (λr=>.tup [J2 r.1,ab r.2.1]) (λr=>[.cells [zB zQ a .no,zB zQ b .no,ai r.2.2]]) 0:=fw func171<|rA 2 (pZ (o:=.no)) λ_=>rC 2 [0] zBw λ_=>rK 0 [] zPw (λ_=>rC 0 [0] zDk λ_=>rK 3 [] zSK (λ_=>fE 5) λ_=>rB 4 (fE 1)<|rC 1 [] aJ λ_=>fE 1) λ_=>rB 0 (rC 0 [0] zDk λ_=>rK 3 [] zSK (λ_=>fE 5) λ_=>rB 4 (fE 1)<|rC 1 [] aJ λ_=>fE 1)<|rK 0 [] zMz (λ_=>rC 0 [0] zMs λ_=>rC 3 [] zVc λ_=>rB 1 (rC 1 [0] zBw λ_=>rC 0 [] zVd λ_=>fE 2)<|fE 2) λ_=>rC 0 [0] zXO λ_=>fE 10
end Go.Proofs.YthncchbcdpbgaaaGreat
