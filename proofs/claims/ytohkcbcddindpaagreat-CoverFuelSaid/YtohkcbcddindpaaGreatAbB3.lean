/- Parts of the proof that the law returns true: walks of the functions, plain laws. -/
import Derived.Lib.SlicesCompact
import Derived.Sort.Grow
import Derived.Sort.Row
import Derived.Test.YtohkcbcddindpaaGreatAbB2
set_option linter.unusedVariables false
set_option linter.unusedSimpArgs false
set_option linter.unusedSectionVars false
namespace Go.Ab
open Go Go.RowKit
theorem wP{α β:Type}{x:Option α}{f:α->Option β}{r:β}(h:(x>>=f)=some r):∃v,x=some v/\f v=some r:=by cases x with|none=>cases h|some v=>exact⟨v,rfl,h⟩
theorem ifT{α:Type}{b:Bool}{x y r:α}(hb:b=true)(h:(if b=true then x else y)=r):x=r:=by rwa[if_pos hb]at h
theorem ifF{α:Type}{b:Bool}{x y r:α}(hb:b=false)(h:(if b=true then x else y)=r):y=r:=by rw[hb,if_neg (by simp)]at h;exact h
theorem yR.nil{P:Program}:yR P []:=trivial
theorem yR.cons{P:Program}{o:Ob}{l:List Ob}(h:o.ok P)(k:yR P l):yR P (o::l):=⟨h,k⟩
theorem zJK{P:Program}{b b':Bool}(h:b=b'):Ob.ok P (.bit b b'):=h
theorem fM{P:Program}{f:FuncId}{H0:List yM}{args:List AV}{res:AV}{H1:List yM}{nst:Nat}(h:CT P f H0 args res H1 nst):Ob.ok P (.call f H0 args res H1 nst):=h
theorem w7{P:Program}{es:List AV}(h:AV.DataL es):Ob.ok P (.data es):=h
theorem uG.nilcase{P:Program}{f:FuncId}{H0 H1:List yM}{es:List AV}{n:Nat}{as0:List AV}{res:AV}{nst:Nat}(h0:es=[]->uG P f H0 (.sl es n .nl::as0) res H1 nst)(h1:uG P f H0 (.sl es n .nn::as0) res H1 nst):uG P f H0 (.sl es n .no::as0) res H1 nst:=by intro G0 W cargs hB hR hv;cases hc:cargs.toList with|nil=>rw[hc]at hv;simp only[VL]at hv|cons u us=>
 rw[hc]at hv;simp only[VL]at hv;obtain⟨hu,hus⟩:=hv;simp only[V]at hu;obtain⟨cap,hcap,⟨q1,q2,q3,q4,_⟩|⟨b,off,q1,q2,_⟩⟩:=hu;·cases hs:jY u with|none=>refine h0 q1 G0 W cargs hB hR ?_;rw[hc];simp only[VL];exact⟨by simp only[V];exact⟨cap,hcap,.inl ⟨q1,q2,q3,q4,hs⟩⟩,hus⟩|some a=>refine h1 G0 W cargs hB hR ?_;rw[hc];simp only[VL];exact⟨by simp only[V];exact⟨cap,hcap,.inl ⟨q1,q2,q3,q4,a,hs⟩⟩,hus⟩
 ·refine h1 G0 W cargs hB hR ?_;rw[hc];simp only[VL];exact⟨by simp only[V];exact⟨cap,hcap,.inr ⟨b,off,q1,q2,trivial⟩⟩,hus⟩
theorem D5{α:Type}{c:α->List AV}{sz:Nat}(hc:vB c sz)(h:0<sz){l:List α}(hl:zC c l=[]):l=[]:=by have:=vL hc.len l;rw[hl]at this;cases l with|nil=>rfl|cons x l=>simp only[List.length_nil,List.length_cons]at this;exact absurd this.symm (Nat.ne_of_gt (Nat.mul_pos (Nat.succ_pos _) h))
variable{P:Program}{pr:FuncId->List AV->yW->Option LA}(hp:rV P pr)(hm:P.follows .mixedOrders=true){na:Nb}{fn:Func}{f:FuncId}
include hp hm
theorem uG.toHead{H0 H1:List yM}{args:List AV}{res:AV}{nst:Nat}(hf:P.funcs[f]?=some fn)(hb:fn.body.isNone=false)(n:Nat)(os:List mS)(rs:List (Option Nat×Nat×Nat))(keep ks live:List Nat){c:Code}{fs':List Fr}{E:(Nat->Value)->List AV}{S:yW}{ob:List Ob}(h:∀j,C9 P pr H0.length n (.run (tI fn)) [] (args++List.replicate (fn.ntmps-args.length) (.val undef)) (aM H0) os rs keep ks live j=some (c,fs',E j,S,ob))(hob:yR P ob)(hk:∀j,Dl P H0.length c (E j) S (vA P H0.length (oO P H0.length fn res H1 nst) fs')):uG P f H0 args res H1 nst:=uG.body hf hb (zEC (na:=(H0.length:Nb)) (m:=.run (tI fn)) (fs:=[]) hp hm h hob hk)
theorem uG.toFin{H0 H1:List yM}{args:List AV}{res:AV}{nst:Nat}(hf:P.funcs[f]?=some fn)(hb:fn.body.isNone=false)(n:Nat)(os:List mS)(rs:List (Option Nat×Nat×Nat))(keep ks:List Nat)(own:Bool){ob:List Ob}(h:U4 P pr H0.length fn n (.run (tI fn)) [] (args++List.replicate (fn.ntmps-args.length) (.val undef)) (aM H0) os rs keep ks own=some (res,H1,ob))(hob:yR P ob)(hn:nst<=ks.length):uG P f H0 args res H1 nst:=uG.body hf hb (D1 (na:=(H0.length:Nb)) (m:=.run (tI fn)) (fs:=[]) hp hm h hob hn)
theorem Dl.toHead{Q:AX->List AV->yW->Prop}{c c':Code}{fs fs':List Fr}{env:List AV}{s S:yW}(n:Nat)(os:List mS)(rs:List (Option Nat×Nat×Nat))(keep ks live:List Nat){E:(Nat->Value)->List AV}{ob:List Ob}(h:∀j,C9 P pr na.n n (.run c) (.loop c::fs) env s os rs keep ks live j=some (c',fs',E j,S,ob))(hob:yR P ob)(hk:∀j,Dl P na c' (E j) S (vA P na Q fs')):Dl P na c env s (vA P na Q fs):=Dl.step (zEC hp hm (Q:=Q) (m:=.run c) (fs:=.loop c::fs) h hob hk)
theorem Dl.toFin{c:Code}{fs:List Fr}{env:List AV}{s:yW}{res:AV}{H1:List yM}{nst:Nat}(n:Nat)(os:List mS)(rs:List (Option Nat×Nat×Nat))(keep ks:List Nat)(own:Bool){ob:List Ob}(h:U4 P pr na.n fn n (.run c) (.loop c::fs) env s os rs keep ks own=some (res,H1,ob))(hob:yR P ob)(hn:nst<=ks.length):Dl P na c env s (vA P na (oO P na fn res H1 nst) fs):=Dl.step (D1 hp hm (m:=.run c) (fs:=.loop c::fs) h hob hn)
end Go.Ab
namespace Go.Ab
open Go Go.RowKit
theorem K6{P:Program}{ops:Array Oper}{Q:Exit->Act->World->Prop}{rest:List Nat}:∀(l:List (Nat×Option LA))(S S':ST),kN P ops l S S'->∀(G:Gh)(a:Act)(w:World),mP G S a w->(∀G' a' w',wV G w G' w'->mP G' S' a' w'->wpOps P ops Q rest a' w')->wpOps P ops Q (l.map (·.1)++rest) a w|[],S,S',h,G,a,w,hR,hQ=>by simp only[kN]at h;subst h;exact hQ G a w (wV.refl G w) hR|p::l,S,S',h,G,a,w,hR,hQ=>by obtain⟨S₁,h1,h2⟩:=h;rw[List.map_cons,List.cons_append,wpOps_cons];refine h1.wp hR λG' a' w' hE hR'=>?_;exact K6 l S₁ S' h2 G' a' w' hR' λG2 a2 w2 hE2 hR2=>hQ G2 a2 w2 (hE.trans hE2) hR2
theorem zLJ{P:Program}{dst:Option Tmp}{type:TypeId}{pos:String}{after:Array Edge}{guard:Option (Nat×Bool)}{g:Operand}{args:Array Operand}{argTypes:Array TypeId}{f:FuncId}{fn:Func}{a:Act}{w:World}{K:Act->World->Prop}{Q:Exit->Act->World->Prop}(hg:a.eval g=.func (.func f) #[] #[])(hf:P.funcs[f]?=some fn)(hname:(fn.name=="runtime.NumGoroutine")=false)(hb:fn.body.isNone=false)(h:Calls P f (args.map a.eval) w λe w'=>∃u,e=.returned u/\K (a.put dst u) w'):Oper.wp P ⟨dst,.call {callee:=.value g,args:=args,argTypes:=argTypes},type,pos,after,guard⟩ a w K Q:=by
 have hrun:(execOp a.eval ⟨dst,.call {callee:=.value g,args:=args,argTypes:=argTypes},type,pos,after,guard⟩).run P w=.ok (.enter f (args.map a.eval)) w:=by
  simp only[execOp,resolve,hg,Deferred.ofValue,Sem.run_bind,Sem.run_pure,Result.andThen_ok,invoke,callFunc];have hname':¬fn.name="runtime.NumGoroutine":=by simpa using hname
  have hb':¬fn.body=none:=by intro e;rw[e]at hb;cases hb
  simp[program,Sem.run,hf,hname',hb']
 unfold Oper.wp;rw[hrun,Oper.upon_enter];refine h.mono λe w' he=>?_;obtain⟨u,rfl,hK⟩:=he;exact hK
theorem vQ.cell{F:Nat->Prop}{w w':World}(h:vQ F w w'){b o:Nat}(hb:F b):w'.cell? ⟨b,o,none⟩=w.cell? ⟨b,o,none⟩:=by simp only[World.cell?,h.block b hb]
def w8(keep:List Nat):List (Nat×yM)->List (Nat×yM)|[]=>[]|p::l=>bif qF keep p.1 then p::w8 keep l else w8 keep l
theorem iI{keep:List Nat}:∀(l:List (Nat×yM))(i:Nat),look (w8 keep l) i=if qF keep i=true then look l i else none|[],i=>by simp[w8,look]|p::l,i=>by simp only[w8];cases hb:qF keep p.1 with
 |true=>simp only[cond_true,look,iI l i];cases he:Nat.beq i p.1 with|true=>have:=Nat.eq_of_beq_eq_true he;subst this;simp only[cond_true,hb,if_true]|false=>simp only[cond_false]
 |false=>simp only[cond_false,look,iI l i];cases he:Nat.beq i p.1 with|true=>have:=Nat.eq_of_beq_eq_true he;subst this;simp[hb]|false=>simp only[cond_false]
def nZ(keep:List Nat)(s:yW):yW:=⟨w8 keep s.H,s.nx,[],0,[]⟩
def yM.lit:yM->Prop|.cells cs=>∀(G G':Gh)(w w':World)(us:List Value),G'.F=G.F->(∀b o,G.F b->G.L b o->G'.L b o)->(∀b o,G.F b->w'.cell? ⟨b,o,none⟩=w.cell? ⟨b,o,none⟩)->VL G w cs us->VL G' w' cs us|_=>False
def zOg(G0 G:Gh)(keep:List Nat)(S:Nat->Nat->Prop):Gh:=⟨λi=>if qF keep i=true then G.ρ i else none,λ_=>none,λb o=>G0.L b o\/S b o,G0.w0,G0.F,λ_=>False⟩
theorem zVG{na:Nb}{G0 G:Gh}{W w w':World}{s:yW}{keep:List Nat}{S:Nat->Nat->Prop}{b:Nat}(hB:zAY na G0)(hn:na.n=0)(hE:wV G0 W G w)(hR:yK G (yX (vW 0) s) w)(hbF:¬G0.F b)(hbρ:∀i,G.ρ i≠some b)(hK:vQ (λc=>c<w.heap.size/\c≠b) w w')(hlit:∀i X,qF keep i=true->look s.H i=some X->X.lit)(hS:∀c o,S c o->c=b/\∃v,w'.cell? ⟨c,o,none⟩=some v):wV G0 W (zOg G0 G keep S) w'/\yK (zOg G0 G keep S) (yX (vW 0) (nZ keep s)) w':=by
 have hLlt:∀c o,G0.L c o->c<w.heap.size/\c≠b:=λc o e=>⟨hR.base c (by rw[hE.F];exact hB.LF c o e),λec=>hbF (ec▸hB.LF c o e)⟩;have hcell:∀c o,G0.L c o->w'.cell? ⟨c,o,none⟩=w.cell? ⟨c,o,none⟩:=λc o e=>hK.cell (hLlt c o e);have hH:∀i,(yX (vW 0) (nZ keep s)).H i=if qF keep i=true then look s.H i else none:=λi=>by rw[xV];exact iI _ _
 refine⟨⟨λi c e=>?_,λk r e=>?_,λ_ _ e=>.inl e,λc o e=>(hcell c o e).trans (hE.cell c o e),rfl,rfl,λc o e=>e.imp id λq=>by rw[(hS c o q).1];exact hbF,λi b m e _=>(by rw[(hB.ρ i (by omega)).1]at e;cases e),λi e=>absurd e (hB.ρ i (by omega)).2⟩,⟨λi=>?_,?_,λi j c hi hj=>?_,λi c X hi hX=>?_,λc o e=>?_,λ_ _=>rfl,λk hk=>?_,λk k' c f t f' t' hk=>?_,?_,λk hk=>?_⟩⟩;·rw[(hB.ρ i (by omega)).1]at e;cases e
 ·rw[hB.τ k]at e;cases e
 ·rw[hH];show jZ (if qF keep i=true then G.ρ i else none) False _;split
  ·rename_i hm;have hd:=hR.dom i;rw[xV]at hd;refine⟨λe=>.inr ?_,λe=>⟨(hd.2.1 e).1,id⟩,λe=>e.elim⟩;rcases hd.1 e with q|q;·cases hX:look s.H i with|none=>rfl|some X=>have hl:=hlit i X hm hX;have hv:=(hd.2.2 q).2 X hX;cases X with|cells cs=>exact hv.elim|obj o=>exact hl.elim|row cs=>exact hl.elim|dead=>exact hl.elim
   ·exact q
  ·exact⟨λ_=>.inr rfl,λ_=>⟨rfl,id⟩,λe=>e.elim⟩
 ·obtain⟨N,hN⟩:=hR.fin;refine⟨N,λi hi=>?_⟩;have:=hN i hi;rw[xV]at this;rw[hH];split;·exact this
  ·rfl
 ·have hi':(if qF keep i=true then G.ρ i else none)=some c:=hi;have hj':(if qF keep j=true then G.ρ j else none)=some c:=hj;split at hi'
  ·split at hj'
   ·rename_i h1 h2;have hno:∀t,qF keep t=true->(yX (vW 0) s).H t≠some .dead:=λt ht hd=>by rw[xV]at hd;exact hlit t _ ht hd
    rcases hR.inj i j c hi' hj' with q|q|q;·exact .inl q
    ·exact(hno i h1 q).elim
    ·exact(hno j h2 q).elim
   ·cases hj'
  ·cases hi'
 ·have hi':(if qF keep i=true then G.ρ i else none)=some c:=hi;split at hi';·rename_i hm;rw[hH,if_pos hm]at hX;obtain⟨q1,q2⟩:=hR.blk i c X hi' (by rw[xV];exact hX);refine⟨by rw[hE.F]at q1;exact q1,?_⟩;have hl:=hlit i X hm hX;cases X with
   |cells cs=>
    obtain⟨vs',T,q3,q4⟩:=q2;refine⟨vs',T,?_,q4.imp λus h=>hl G _ w w' us hE.F.symm (λb o h1 h2=>?_) (λb o h1=>?_) h⟩;·rw[hK.block c ⟨(Array.getElem?_eq_some_iff.1 q3).1,λe=>hbρ i (e▸hi')⟩];exact q3
    ·exact .inl ((hE.newL b o h2).resolve_right λh=>h (by rw[<-hE.F];exact h1))
    ·exact hK.cell ⟨hR.base b h1,λe=>hbF (by rw[<-hE.F];exact e▸h1)⟩|obj o=>exact hl.elim|row cs=>exact hl.elim|dead=>exact hl.elim
  ·cases hi'
 ·rcases e with e|e
  ·obtain⟨⟨v,hv⟩,q⟩:=hR.live c o (hE.L c o e);refine⟨⟨v,(hcell c o e).trans hv⟩,λi hi=>?_⟩;have hi':(if qF keep i=true then G.ρ i else none)=some c:=hi;split at hi';·exact q i hi'
   ·cases hi'
  ·obtain⟨rfl,hv⟩:=hS c o e;refine⟨hv,λi hi=>?_⟩;have hi':(if qF keep i=true then G.ρ i else none)=some c:=hi;split at hi';·exact hbρ i hi'
   ·cases hi'
 ·simp[sT,nZ]at hk
 ·simp[sT,nZ]at hk
 ·have:=hR.below;rw[hE.F,hE.w0]at this;exact this.trans (hK.mono λk hk=>⟨hR.base k (by rw[hE.F];exact hk),λe=>hbF (e▸hk)⟩)
 ·exact Nat.lt_of_lt_of_le (hR.base k (by rw[hE.F];exact hk)) hK.size
theorem zLK{keep:List Nat}{s:yW}(h:s.Ok):(nZ keep s).Ok:=by
 refine⟨λi X hX=>?_,λk hk=>by simp[nZ]at hk,(λk h=>by cases h),Nat.zero_le _⟩;have hX':look (w8 keep s.H) i=some X:=hX;rw[iI]at hX';split at hX';·exact h.H i X hX'
 ·cases hX'
def mutEnv(keep:List Nat)(j:Nat->Value):List AV->Nat->List AV|[],_=>[]|a::l,t=>(match a with|.val v=>.val v|.mp i off=>bif qF keep i then .mp i off else .val (j t)|_=>.val (j t))::mutEnv keep j l (t+1)
theorem VL.mutEnv{G0 G:Gh}{w w':World}{keep:List Nat}{S:Nat->Nat->Prop}(us0:List Value):∀(env:List AV)(us:List Value)(t:Nat),VL G w env us->(∀i,us0.getD (t+i) undef=us.getD i undef)->VL (zOg G0 G keep S) w' (Ab.mutEnv keep (λt=>us0.getD t undef) env t) us
 |[],[],_,_,_=>by simp[Ab.mutEnv,VL]|a::as0,u::us,t,hv,hu=>by
  simp only[VL]at hv;have h0:us0.getD t undef=u:=by have:=hu 0;simpa using this
  simp only[Ab.mutEnv,VL];refine⟨?_,VL.mutEnv us0 as0 us (t+1) hv.2 (λi=>?_)⟩
  ·have h1:=hv.1;split;·simpa only[V]using h1
   ·rename_i i off;cases hm:qF keep i with|true=>simp only[V,cond_true]at h1⊢;obtain⟨c,hc,rfl⟩:=h1;exact⟨c,by show(if qF keep i=true then G.ρ i else none)=_;rw[if_pos hm];exact hc,rfl⟩|false=>simp only[cond_false,V];exact h0.symm
   ·simp only[V];exact h0.symm
  ·have:=hu (i+1);rw[show t+1+i=t+(i+1)by omega,this];simp|[],_::_,_,h,_=>by simp only[VL]at h|_::_,[],_,h,_=>by simp only[VL]at h
theorem VL.put{G:Gh}{w:World}:∀(as0:List AV)(us:List Value),VL G w as0 us->∀(i:Nat)(a:AV),(∀u,us[i]?=some u->V G w a u)->VL G w (as0.set i a) us
 |[],[],_,i,a,_=>by simp[VL]|x::as0,y::us,h,i,a,hv=>by simp only[VL]at h;cases i with|zero=>simp only[List.set_cons_zero,VL];exact⟨hv y rfl,h.2⟩|succ i=>simp only[List.set_cons_succ,VL];exact⟨h.1,VL.put as0 us h.2 i a λu hu=>hv u (by simpa using hu)⟩
 |[],_::_,h,_,_,_=>by simp only[VL]at h|_::_,[],h,_,_,_=>by simp only[VL]at h
def vC:Code->Array Oper|.region _ ops _=>ops|_=>#[]
def D6:Code->Bool|.region _ _ false=>true|_=>false
def zUT:Code->Bool|.ret=>true|_=>false
def zLL:Option Oper->Option (Option Tmp×Operand)|some ⟨d,.move x,_,_,_,none⟩=>some (d,x)|some ⟨d,.assign x,_,_,_,none⟩=>some (d,x)|_=>none
def zCZ:Option Oper->Option (Option Tmp×FuncId×Array Operand)|some ⟨d,.call {callee:=.value (.func f),args,argTypes:=_},_,_,_,none⟩=>some (d,f,args)|_=>none
section
variable{P:Program}{a:Act}{w:World}{Q:Exit->Act->World->Prop}
theorem zDz{c:Code}(hk:knd c=1)(h:(nY c).wp P (Exit.then ((uF c).wp P Q) Q) a w):c.wp P Q a w:=by cases c<;>first|exact wp_seq h|cases hk
theorem aS{c:Code}(hk:D6 c=true){l:List Nat}(hl:List.range (vC c).size=l)(h:wpOps P (vC c) Q l a w):c.wp P Q a w:=by subst hl;cases c with
 |region id ops draw=>cases draw with|false=>exact wp_region h|true=>cases hk
 |_=>cases hk
theorem zRX{c:Code}(hk:zUT c=true)(h:Q .ret a w):c.wp P Q a w:=by cases c<;>first|exact wp_ret h|cases hk
theorem D7{ops:Array Oper}{rest:List Nat}{i:Nat}{d:Option Tmp}{x:Operand}(hop:zLL ops[i]?=some (d,x))(h:wpOps P ops Q rest (a.put d (a.eval x)) w):wpOps P ops Q (i::rest) a w:=by
 rw[wpOps_cons];unfold wpOp;unfold zLL at hop;split at hop
 ·rename_i o e;cases hop;rw[e];simp only[Region.wanted,if_true];refine .inl ?_;unfold Oper.wp;simpa[execOp,Oper.upon]using h
 ·rename_i o e;cases hop;rw[e];simp only[Region.wanted,if_true];refine .inl ?_;unfold Oper.wp;simpa[execOp,Oper.upon]using h
 ·cases hop
theorem w9{ops:Array Oper}{rest:List Nat}{i:Nat}{d:Option Tmp}{args:Array Operand}{f:FuncId}{fn:Func}(hop:zCZ ops[i]?=some (d,f,args))(hf:P.funcs[f]?=some fn)(hname:(fn.name=="runtime.NumGoroutine")=false)(hb:fn.body.isNone=false)(h:Calls P f (args.map a.eval) w λe w'=>∃u,e=.returned u/\wpOps P ops Q rest (a.put d u) w'):wpOps P ops Q (i::rest) a w:=by
 rw[wpOps_cons];unfold wpOp;unfold zCZ at hop;split at hop;·rename_i e;cases hop;rw[e];simp only[Region.wanted,if_true];exact .inl (zLJ (f:=f) (fn:=fn) rfl hf hname hb h)
 ·cases hop
end
def tells:List (Nat×AV)->List AV->List AV|[],env=>env|p::l,env=>tells l (env.set p.1 p.2)
theorem VL.tells{G:Gh}{w:World}:∀(l:List (Nat×AV))(as0:List AV)(us:List Value),VL G w as0 us->(∀p∈l,∀u,us[p.1]?=some u->V G w p.2 u)->VL G w (Ab.tells l as0) us|[],_,_,h,_=>h|p::l,as0,us,h,k=>VL.tells l _ us (VL.put as0 us h p.1 p.2 (k p List.mem_cons_self)) λq hq=>k q (List.mem_cons_of_mem _ hq)
theorem VL.getE{G:Gh}{w:World}{env:List AV}{us:List Value}(h:VL G w env us){t:Nat}{u:Value}(hu:us[t]?=some u):V G w (eget env t) u:=by
 have:=V.eget env us h t;have e:us.getD t undef=u:=by simp[List.getD,hu]
 rwa[e]at this
theorem Dv.mut{P:Program}{pr:FuncId->List AV->yW->Option LA}(hp:rV P pr){na:Nb}(hn:na.n=0){Q:AX->List AV->yW->Prop}{id:Nat}{ops:Array Oper}{env env1:List AV}{s s1 s3:yW}{os os2:List mS}{ob ob2:List Ob}(p:Nat)(keep:List Nat)(tell:List (Nat×AV))(res:AV){dst:Option Tmp}{tA:Tmp}{f:FuncId}{fn:Func}{E3:(Nat->Value)->List AV}(h1':(bJ P pr ops (ops.toList.take p) 0 env s os).map Prod.snd=some (env1,s1,[],ob))(hob:yR P ob)(hop:zCZ ops[p]?=some (dst,f,#[.tmp tA]))(hf:P.funcs[f]?=some fn)(hname:(fn.name=="runtime.NumGoroutine")=false)(hb:fn.body.isNone=false)(hlit:∀i X,qF keep i=true->look s1.H i=some X->X.lit)(hcall:∀G0 W,zAY na G0->∀G w,wV G0 W G w->yK G (yX (vW 0) s1) w->∀u,V G w (eget env1 tA) u->Calls P f #[u] w λe w'=>∃(v:Value)(b:Nat)(S:Nat->Nat->Prop),e=.returned v/\¬G.F b/\(∀i,G.ρ i≠some b)/\vQ (λc=>c<w.heap.size/\c≠b) w w'/\(∀c o,S c o->c=b/\∃x,w'.cell? ⟨c,o,none⟩=some x)/\∀G',wV G0 W G' w'->vQ G'.F G'.w0 w'->(∀c o,S c o->G'.L c o)->V G' w' res v/\∀q∈tell,∀u',V G w (eget env1 q.1) u'->V G' w' q.2 u')(h2':∀j,(bJ P pr ops (ops.toList.drop (p+1)) (p+1) (eset (tells tell (mutEnv keep j env1 0)) dst res) (nZ keep s1) os2).map Prod.snd=some (E3 j,s3,[],ob2))(hob2:yR P ob2)(hk:∀j,Q .normal (E3 j) s3):Dv P na (.region id ops false) env s Q:=by
 have mp:∀{x:Option (List (Nat×Option LA)×List AV×yW×List mS×List Ob)}{y},x.map Prod.snd=some y->∃r,x=some (r,y):=by intro x y h;simp only[Option.map_eq_some_iff]at h;obtain⟨⟨r,z⟩,h1,rfl⟩:=h;exact⟨r,h1⟩
 obtain⟨r,h1⟩:=mp h1';intro G0 W hB G a w hE hok hR;have hlt:p<ops.size:=by
  rcases Nat.lt_or_ge p ops.size with h|h;·exact h
  ·rw[Array.getElem?_eq_none h]at hop;cases hop
 obtain⟨_,q2,q3⟩:=V9 hp (ops.toList.take p) 0 env s os r _ _ _ _ (λk o e=>by
  rw[List.getElem?_take]at e;split at e;·simpa using e
  ·cases e) h1 hob;obtain⟨o1,r1⟩:=q3 (vW 0) 0 hok (λ_ _ _=>rfl);refine wp_region ?_;have hr:List.range ops.size=r.map (·.1)++p::List.range' (p+1) (ops.size-(p+1)):=by
  rw[q2,List.range_eq_range'];have hl:(ops.toList.take p).length=p:=by simp;omega
  rw[hl,show p::List.range' (p+1) (ops.size-(p+1))=List.range' p (ops.size-p)by rw[show ops.size-p=(ops.size-(p+1))+1 by omega,List.range'_succ]];have:=List.range'_append (s:=0) (m:=p) (n:=ops.size-p) (step:=1);simp only[Nat.one_mul,Nat.zero_add]at this;rw[this];congr 1;omega
 rw[hr];refine K6 r _ _ r1 G a w hR λG1 a1 w1 hE1 hR1=>?_;have hEE:=hE.trans hE1;have hu:V G1 w1 (eget env1 tA) (a1.eval (.tmp tA)):=by have:=V.aev hR1.env (.tmp tA);simpa[aev]using this
 refine w9 hop hf hname hb ?_;rw[show Array.map a1.eval #[Operand.tmp tA]=#[a1.eval (Operand.tmp tA)]by simp];refine(hcall G0 W hB G1 w1 hEE hR1.st _ hu).mono ?_;rintro e w2⟨v,b,S,rfl,hbF,hbρ,hK,hS,hV⟩;refine⟨v,rfl,?_⟩;obtain⟨hE2,hR2⟩:=zVG (keep:=keep) hB hn hEE hR1.st (by rw[<-hEE.F];exact hbF) hbρ hK hlit hS;obtain⟨hv,ht⟩:=hV _ hE2 hR2.below (λc o h=>.inr h);have henv:VL (zOg G0 G1 keep S) w2 (eset (tells tell (mutEnv keep (λt=>a1.tmps.toList.getD t undef) env1 0)) dst res) (a1.put dst v).tmps.toList:=by refine VL.eset ?_ dst hv;refine VL.tells tell _ _ (VL.mutEnv _ env1 _ 0 hR1.env (λi=>by rw[Nat.zero_add])) λq hq u' hu'=>ht q hq u' (hR1.env.getE hu')
 have hR3:mP (zOg G0 G1 keep S) ⟨eset (tells tell (mutEnv keep (λt=>a1.tmps.toList.getD t undef) env1 0)) dst res,yX (vW 0) (nZ keep s1)⟩ (a1.put dst v) w2:=⟨hR2,henv,by rw[zCI];exact hR1.dfr⟩;have hok2:=zLK (keep:=keep) o1;obtain⟨r2,h2⟩:=mp (h2' λt=>a1.tmps.toList.getD t undef);obtain⟨_,q5,q6⟩:=V9 hp (ops.toList.drop (p+1)) (p+1) _ _ os2 r2 _ _ _ _ (λk o e=>by rw[List.getElem?_drop]at e;simpa using e) h2 hob2;obtain⟨o3,r3⟩:=q6 (vW 0) 0 hok2 (λ_ _ _=>rfl);have e5:List.range' (p+1) (ops.size-(p+1))=r2.map (·.1)++[]:=by rw[q5,List.append_nil];simp
 rw[e5];refine K6 r2 _ _ r3 _ _ w2 hR3 λG4 a4 w4 hE4 hR4=>?_;exact⟨.normal,_,s3,G4,rfl,hk _,hE2.trans hE4,o3,hR4⟩
theorem zRY{c:Code}(hk:D6 c=true):∃id,c=.region id (vC c) false:=by cases c with
 |region id ops draw=>cases draw with|false=>exact⟨id,rfl⟩|true=>cases hk
 |_=>cases hk
theorem Dv.seqP{P:Program}{na:Nb}{c:Code}{env:List AV}{s:yW}{Q:AX->List AV->yW->Prop}(hk:knd c=1)(h:Dv P na (nY c) env s (zOy (λe s=>Dv P na (uF c) e s Q) Q)):Dv P na c env s Q:=by cases c<;>first|exact Dv.seq h|cases hk
open Go.Lib
def u0(x:Int):List Int->List Int|[]=>[x]|y::l=>if x<=y then x::y::l else y::u0 x l
def wG:List Int->List Int|[]=>[]|x::l=>u0 x (wG l)
def uC:List Int->List Int|[]=>[]|x::l=>match l with|[]=>[x]|y::_=>if x=y then uC l else x::uC l
def vG(l:List Int):List Int:=uC (wG l)
theorem aT(x:Int):∀l,(u0 x l).Perm (x::l)
 |[]=>.refl _|y::l=>by
  simp only[u0];split;·exact .refl _
  ·exact((aT x l).cons y).trans (.swap x y l)
theorem lC:∀l,(wG l).Perm l|[]=>.refl _|x::l=>(aT x (wG l)).trans ((lC l).cons x)
theorem D8(x:Int):∀l,l.Pairwise (·<=·)->(u0 x l).Pairwise (·<=·)
 |[],_=>by simp[u0]|y::l,h=>by
  simp only[u0];rw[List.pairwise_cons]at h;split
  ·rename_i hxy;rw[List.pairwise_cons];refine⟨λz hz=>?_,List.pairwise_cons.2 h⟩;rcases List.mem_cons.1 hz with rfl|hz;·exact hxy
   ·exact Int.le_trans hxy (h.1 z hz)
  ·rename_i hxy;rw[List.pairwise_cons];refine⟨λz hz=>?_,D8 x l h.2⟩;rcases List.mem_cons.1 ((aT x l).mem_iff.1 hz)with rfl|hz;·omega
   ·exact h.1 z hz
theorem iJ:∀l,(wG l).Pairwise (·<=·)|[]=>.nil|x::l=>D8 x _ (iJ l)
theorem gL(l:List Int):l.mergeSort (λx y=>decide (x<=y))=wG l:=by
 have h1:(l.mergeSort (λx y=>decide (x<=y))).Perm (wG l):=(List.mergeSort_perm l _).trans (lC l).symm;have h2:(l.mergeSort (λx y=>decide (x<=y))).Pairwise (·<=·):=by have:=List.pairwise_mergeSort (le:=λ(x y:Int)=>decide (x<=y)) (λa b c h1 h2=>by simp only[decide_eq_true_eq]at*;omega) (λa b=>by simp only[Bool.or_eq_true,decide_eq_true_eq];omega) l;exact this.imp λh=>by simpa using h
 exact h1.eq_of_pairwise (λa b _ _ h1 h2=>Int.le_antisymm h1 h2) h2 (iJ l)
theorem oT(x y:Int)(l:List Int):uC (x::y::l)=if x=y then uC (y::l)else x::uC (y::l):=rfl
theorem zBb(x:Int):∀l:List Int,uC (l++[x])=if l=[]\/l.getLast?≠some x then uC l++[x]else uC l
 |[]=>by simp[uC]|[y]=>by
  show uC (y::x::[])=_;rw[oT];by_cases h:y=x;·subst h;simp[uC]
  ·simp[h,uC]|y::z::l=>by
  have ih:=zBb x (z::l);show uC (y::z::(l++[x]))=_;rw[oT,oT];simp only[List.cons_append]at ih;rw[ih];have e:(y::z::l).getLast?=(z::l).getLast?:=by simp[List.getLast?_cons_cons]
  rw[e];by_cases h:y=z;·simp only[h,if_true];split<;>split<;>simp_all
  ·simp only[h,if_false];split<;>split<;>simp_all
theorem iK(zs:List Int):∀m,m<=zs.length->compactUpTo zs.toArray m=uC (zs.take m)
 |0,_=>by simp[compactUpTo,uC]|m+1,h=>by
  rw[compactUpTo_succ,iK zs m (by omega),List.take_succ_eq_append_getElem (by omega),zBb];have hm:zs.toArray[m]! =zs[m]:=by simp[show m<zs.length by omega]
  rcases Nat.eq_zero_or_pos m with rfl|hpos;·simp[keeps,uC,show 0<zs.length by omega]
  ·have hl:(zs.take m).getLast?=some zs[m-1]:=by rw[List.getLast?_eq_getElem?,List.length_take,Nat.min_eq_left (show m<=zs.length by omega),List.getElem?_take_of_lt (show m-1<m by omega),List.getElem?_eq_getElem (show m-1<zs.length by omega)]
   have hm':zs.toArray[m-1]! =zs[m-1]:=by simp[show m-1<zs.length by omega]
   have hne:¬zs.take m=[]:=by intro e;have:=congrArg List.length e;rw[List.length_take,Nat.min_eq_left (show m<=zs.length by omega),List.length_nil]at this;omega
   rw[hl];simp only[hne,false_or,ne_eq,Option.some.injEq];by_cases e:zs[m]=zs[m-1];·rw[keeps_neg hpos (by rw[hm,hm',e])];simp[e]
   ·rw[keeps_pos (by rw[hm,hm'];exact e)];have e':¬zs[m-1]=zs[m]:=λh=>e h.symm;simp[e',hm]
theorem zLM(l:List Int):compactUpTo (l.mergeSort λx y=>decide (x<=y)).toArray (l.mergeSort λx y=>decide (x<=y)).toArray.size=vG l:=by rw[gL];have:=iK (wG l) (wG l).length (Nat.le_refl _);rw[List.take_length]at this;simpa[vG]using this
theorem u3:∀l:List Int,(uC l).length<=l.length
 |[]=>by simp[uC]|[x]=>by simp[uC]|x::y::l=>by
  rw[oT];have:=u3 (y::l);split;·simp at this⊢;omega
  ·simp at this⊢;omega
theorem nN(l:List Int):(vG l).length<=l.length:=by have:=u3 (wG l);rw[(lC l).length_eq]at this;exact this
end Go.Ab
namespace Go.Ab
open Go Go.RowKit Go.Sort
variable{P:Program}
theorem Calls.args{P:Program}{f:FuncId}{a b:Array Value}{w:World}{R:Ending->World->Prop}(h:a=b)(k:Calls P f b w R):Calls P f a w R:=h▸k
theorem zOf{P:Program}{c:Code}{Q:Exit->Act->World->Prop}{a b:Act}{w:World}(h:a=b)(k:c.wp P Q b w):c.wp P Q a w:=h▸k
theorem D9{α:Type}[Inhabited α](enc:α->Value)(w:World)(b off:Nat)(d:Array α){k:Nat}(hk:k≠b):(putRow enc w b off d).heap[k]?=w.heap[k]?:=by simp only[putRow,mapBlock,Array.getElem?_modify];rw[if_neg (λe=>hk e.symm)]
theorem vQ.putRow{α:Type}[Inhabited α](enc:α->Value)(w:World)(n b off:Nat)(d:Array α):vQ (λc=>c<w.heap.size/\c≠b) w (putRow enc (Sort.ahead w n) b off d):=⟨rfl,rfl,rfl,by simp,λk hk=>by rw[D9 _ _ _ _ _ hk.2];rfl⟩
theorem vQ.grow(w:World)(os:Array Obj)(b:Nat):vQ (λc=>c<w.heap.size/\c≠b) w (grow w os):=⟨rfl,rfl,rfl,by simp[Sort.grow],λk hk=>by show(w.heap++os)[k]?=_;rw[Array.getElem?_append_left hk.1]⟩
end Go.Ab
namespace Go.Proofs.YtohkcbcddindpaaGreat
open Go Go.Ab Go.RowKit Go.Sort Go.Proofs Go.Proofs.Tryz
theorem zBa{w:World}{b off cap:Nat}{zs:List Int}(hH:Holds (Value.int .i64) w b off zs.toArray)(hb:b<w.heap.size)(hsz:zs.length<4611686018427387904):Calls prog 100 #[.slice (some ⟨b,off,none⟩) zs.length cap] w λe w'=>e=.returned (.tuple #[])/\∃n os,w'=Sort.grow (putRow (Value.int .i64) (Sort.ahead w n) b off (zs.mergeSort λx y=>decide (x<=y)).toArray) os:=AnyM.slices_Sort_int Tryz.sortI b off cap zs w hH hb hsz
theorem E0{w:World}{b off cap:Nat}{zs:List Int}(hH:Holds (Value.int .i64) w b off zs.toArray)(hsz:zs.length<4611686018427387904)(hcap:zs.length<=cap):Calls prog 101 #[.slice (some ⟨b,off,none⟩) zs.length cap] w λe w'=>e=.returned (.slice (some ⟨b,off,none⟩) (Go.Lib.compactUpTo zs.toArray zs.toArray.size).length cap)/\∃q,w'=putRow (Value.int .i64) (Sort.ahead w q) b off (Go.Lib.compactUpTo zs.toArray zs.toArray.size++List.replicate (zs.toArray.size-(Go.Lib.compactUpTo zs.toArray zs.toArray.size).length) 0).toArray:=by have:=AnyE.slices_Compact Tryz.cmpI (Value.int .i64) (λ_=>rfl) (EqlAt.intD _ _ .i64) (NeqAt.intD _ _ .i64) 0 Tryz.zeroValue3 b off cap zs.toArray w hH (by simp;omega) (by simpa using hcap);simpa[show Tryz.cmpI_ren.f 43=101 from rfl]using this
theorem zBA{w:World}{u:Value}{M:World->Prop}{N:World->Value->Prop}(hs:Calls prog 100 #[u] w λe w1=>e=.returned (.tuple #[])/\M w1)(hc:∀w1,M w1->Calls prog 101 #[u] w1 λe w2=>∃v,e=.returned v/\N w2 v):Calls prog 97 #[u] w λe w'=>∃v,e=.returned v/\N w' v:=by
 refine calls_of_wp func97 (c:=tI f97) (by kernel_rfl) ?_;have k0:knd (tI f97)=1:=by kernel_rfl
 have k1:D6 (nY (tI f97))=true:=by kernel_rfl
 have k2:List.range (vC (nY (tI f97))).size=[0]:=by kernel_rfl
 have k3:zLL (vC (nY (tI f97)))[0]?=some (some 2,.const (.slice none 0 0)):=by kernel_rfl
 have k4:knd (uF (tI f97))=1:=by kernel_rfl
 have k5:D6 (nY (uF (tI f97)))=true:=by kernel_rfl
 have k6:List.range (vC (nY (uF (tI f97)))).size=[0,1]:=by kernel_rfl
 have k7:zLL (vC (nY (uF (tI f97))))[0]?=some (some 3,.tmp 0):=by kernel_rfl
 have k8:zCZ (vC (nY (uF (tI f97))))[1]?=some (some 4,100,#[.tmp 3]):=by kernel_rfl
 have k9:knd (uF (uF (tI f97)))=1:=by kernel_rfl
 have k10:D6 (nY (uF (uF (tI f97))))=true:=by kernel_rfl
 have k11:List.range (vC (nY (uF (uF (tI f97))))).size=[0,1,2]:=by kernel_rfl
 have k12:zLL (vC (nY (uF (uF (tI f97)))))[0]?=some (some 5,.tmp 0):=by kernel_rfl
 have k13:zCZ (vC (nY (uF (uF (tI f97)))))[1]?=some (some 6,101,#[.tmp 5]):=by kernel_rfl
 have k14:zLL (vC (nY (uF (uF (tI f97)))))[2]?=some (some 2,.tmp 6):=by kernel_rfl
 have k15:zUT (uF (uF (uF (tI f97))))=true:=by kernel_rfl
 have k16:(f100.name=="runtime.NumGoroutine")=false:=by kernel_rfl
 have k17:f100.body.isNone=false:=by kernel_rfl
 have k18:(f101.name=="runtime.NumGoroutine")=false:=by kernel_rfl
 have k19:f101.body.isNone=false:=by kernel_rfl
 have k20:f97.ntmps=7:=by kernel_rfl
 have k21:f97.results=#[.tmp 2]:=by kernel_rfl
 rw[k20];revert k0 k1 k2 k3 k4 k5 k6 k7 k8 k9 k10 k11 k12 k13 k14 k15;generalize tI f97=B;intro k0 k1 k2 k3 k4 k5 k6 k7 k8 k9 k10 k11 k12 k13 k14 k15;refine zDz k0 ?_;refine aS k1 k2 ?_;refine D7 k3 ?_;unfold wpOps;unfold Exit.then;dsimp only;refine zDz k4 ?_;refine aS k5 k6 ?_;refine D7 k7 ?_;refine w9 k8 func100 k16 k17 ?_;refine Calls.args (b:=#[u]) (by simp[Act.eval,Act.put]) (Calls.mono hs ?_);rintro e w1⟨rfl,hM⟩;refine⟨_,rfl,?_⟩;unfold wpOps;unfold Exit.then;dsimp only;refine zOf (b:=⟨#[u,undef,.slice none 0 0,u,.tuple #[],undef,undef],[]⟩) (by simp[Act.eval,Act.put,Array.replicate_succ]) ?_;refine zDz k9 ?_;refine aS k10 k11 ?_;refine D7 k12 ?_;refine w9 k13 func101 k18 k19 ?_;refine Calls.args (b:=#[u]) (by simp[Act.eval,Act.put]) (Calls.mono (hc w1 hM) ?_);rintro e w2⟨v,rfl,hN⟩;refine⟨_,rfl,?_⟩;refine D7 k14 ?_;unfold wpOps;unfold Exit.then;dsimp only;refine zOf (b:=⟨#[u,undef,v,u,.tuple #[],u,v],[]⟩) (by simp[Act.eval,Act.put]) ?_;refine zRX k15 ?_;exact⟨rfl,v,by simp[results,k21],v,rfl,hN⟩
theorem zLN{w:World}{b off cap:Nat}{zs:List Int}(hH:Holds (Value.int .i64) w b off zs.toArray)(hb:b<w.heap.size)(hsz:zs.length<4611686018427387904)(hcap:zs.length<=cap):Calls prog 97 #[.slice (some ⟨b,off,none⟩) zs.length cap] w λe w'=>e=.returned (.slice (some ⟨b,off,none⟩) (vG zs).length cap)/\vQ (λc=>c<w.heap.size/\c≠b) w w'/\∀i(h:i<(vG zs).length),w'.cell? ⟨b,off+i,none⟩=some (.int .i64 (vG zs)[i]):=by
 have hl:(zs.mergeSort λx y=>decide (x<=y)).length=zs.length:=List.length_mergeSort _;refine(zBA (zBa (cap:=cap) hH hb hsz) (N:=λw' v=>v=.slice (some ⟨b,off,none⟩) (vG zs).length cap/\vQ (λc=>c<w.heap.size/\c≠b) w w'/\∀i(h:i<(vG zs).length),w'.cell? ⟨b,off+i,none⟩=some (.int .i64 (vG zs)[i])) ?_).mono (λe w'⟨v,h1,h2,h3,h4⟩=>⟨by rw[h1,h2],h3,h4⟩);rintro w1⟨n,os,rfl⟩;have hH1:Holds (Value.int .i64) (Sort.grow (putRow (Value.int .i64) (Sort.ahead w n) b off (zs.mergeSort λx y=>decide (x<=y)).toArray) os) b off (zs.mergeSort λx y=>decide (x<=y)).toArray:=holds_grow _ _ _ _ _ _ (by simpa using hb) (holds_putRow _ _ _ _ zs.toArray _ hH (by simp[hl]));have hc:=E0 (cap:=cap) hH1 (by omega) (by omega);rw[hl]at hc;refine Calls.mono hc ?_;rintro e w2⟨rfl,q,rfl⟩;refine⟨_,rfl,?_⟩;rw[zLM];have hrl:=nN zs;refine⟨rfl,(vQ.trans (vQ.trans (vQ.putRow _ w n b off _) ((vQ.grow _ os b).mono λk hk=>⟨by simpa using hk.1,hk.2⟩)) ((vQ.putRow _ _ q b off _).mono λk hk=>⟨?_,hk.2⟩)),λi h=>?_⟩;·show k<((putRow _ _ _ _ _).heap++os).size;simp;have:=hk.1;omega
 ·rw[cell?_putRow (Value.int .i64) _ b off (zs.mergeSort λx y=>decide (x<=y)).toArray _ (holds_ahead _ _ _ _ _ _ hH1) (by simp[hl];omega) i (by simp;omega)];simp[List.getElem?_append_left h,h]
theorem zUU:uG prog 101 [] [.sl [] 0 .no] (.sl [] 0 .no) [] 0:=uG.toFin wR mixed func101 (by kernel_rfl) 3000 [.no,.no] [] [] [] false (by kernel_rfl) (yR.cons (w7 (es:=[]) trivial) yR.nil) (by decide)
def atW(w:World):Gh:=⟨λ_=>none,λ_=>none,λ_ _=>False,w,λc=>c<w.heap.size,λ_=>False⟩
theorem zJL(w:World):yK (atW w) (yX (vW 0) (aM [])) w:=by
 refine⟨λ_=>⟨λ_=>.inr rfl,λ_=>⟨rfl,id⟩,λe=>e.elim⟩,⟨0,λ_ _=>rfl⟩,λ_ _ _ h=>?_,λ_ _ _ h=>?_,λ_ _ h=>False.elim h,λ_ _=>rfl,λ_ h=>?_,λ_ _ _ _ _ _ _ h=>?_,vQ.refl _ _,λ_ h=>h⟩;·cases h
 ·cases h
 ·cases h
 ·cases h
theorem zEK(w:World):zAY (0:Nat) (atW w):=⟨λ_ _=>⟨rfl,id⟩,λ_=>rfl,λ_ _ h=>False.elim h,trivial⟩
theorem V.none{G G':Gh}{w w':World}{v:Value}(h:V G w (.sl [] 0 .no) v):V G' w' (.sl [] 0 .no) v:=by
 simp only[V]at h⊢;obtain⟨cap,h1,⟨_,_,h2,h3,_⟩|⟨b,off,h2,_,_⟩⟩:=h;·exact⟨cap,h1,.inl ⟨trivial,trivial,h2,h3,trivial⟩⟩
 ·exact⟨cap,h1,.inr ⟨b,off,h2,by simp only[VC],trivial⟩⟩
theorem zLO{w:World}{u:Value}{p:Option Addr}{cap:Nat}(hu:u=.slice p 0 cap){G:Gh}(hV:V G w (.sl [] 0 .no) u):Calls prog 97 #[u] w λe w'=>∃v,e=.returned v/\(vQ (λc=>c<w.heap.size) w w'/\∀G',V G' w' (.sl [] 0 .no) v):=by
 refine zBA (M:=λw1=>w1=w) (by subst hu;exact AnyM.slices_Sort_int_none Tryz.sortI p cap w) ?_;rintro w1 rfl;refine(zUU (atW w1) w1 #[u] (zEK w1) (zJL w1) ?_).mono ?_;·simp only[VL];exact⟨V.none hV,trivial⟩
 ·rintro e w2⟨v,G',s',rfl,hE,hR,hv,_⟩;refine⟨v,rfl,?_,λG'=>V.none hv⟩;have:=hR.below;rw[hE.F,hE.w0]at this;exact this
theorem VL.ints{G:Gh}{w:World}:∀l:List Int,VL G w (zC zY l) (l.map (Value.int .i64))|[]=>by simp[zC,VL]|x::l=>by simp only[zC,List.flatMap_cons,List.map_cons];simp only[zY,List.cons_append,List.nil_append,VL,V];exact⟨trivial,VL.ints l⟩
theorem VL.ints_eq{G:Gh}{w:World}:∀(l:List Int)(us:List Value),VL G w (zC zY l) us->us=l.map (Value.int .i64)|[],[],_=>rfl|[],_::_,h=>by simp only[zC,List.flatMap_nil,VL]at h|x::l,[],h=>by simp only[zC,List.flatMap_cons,zY,List.cons_append,VL]at h|x::l,u::us,h=>by simp only[zC,List.flatMap_cons,zY,List.cons_append,List.nil_append,VL,V]at h;rw[h.1,VL.ints_eq l us h.2];rfl
theorem zBB{G:Gh}{w:World}{s:yW}{k:Nat}{l:List Int}{u:Value}(hR:yK G (yX (vW 0) s) w)(ho:s.own.any (Nat.beq k)=true)(hsz:l.length<4611686018427387904)(hu:V G w (.sl (zC zY l) l.length (.st k 1)) u):Calls prog 97 #[u] w λe w'=>∃(v:Value)(b:Nat)(S:Nat->Nat->Prop),e=.returned v/\¬G.F b/\(∀i,G.ρ i≠some b)/\vQ (λc=>c<w.heap.size/\c≠b) w w'/\(∀c o,S c o->c=b/\∃x,w'.cell? ⟨c,o,none⟩=some x)/\∀G',(∀c o,S c o->G'.L c o)->V G' w' (.sl (zC zY (vG l)) (vG l).length .no) v:=by
 have hempty:l=[]->∀p cap,u=.slice p 0 cap->V G w (.sl [] 0 .no) u->Calls prog 97 #[u] w λe w'=>∃(v:Value)(b:Nat)(S:Nat->Nat->Prop),e=.returned v/\¬G.F b/\(∀i,G.ρ i≠some b)/\vQ (λc=>c<w.heap.size/\c≠b) w w'/\(∀c o,S c o->c=b/\∃x,w'.cell? ⟨c,o,none⟩=some x)/\∀G',(∀c o,S c o->G'.L c o)->V G' w' (.sl (zC zY (vG l)) (vG l).length .no) v:=by rintro rfl p cap hp hV;refine(zLO hp hV).mono ?_;rintro e w'⟨v,rfl,hK,hv⟩;exact⟨v,w.heap.size,λ_ _=>False,rfl,λh=>Nat.lt_irrefl _ (hR.base _ h),λi hi=>Nat.lt_irrefl _ (hR.ρ_lt hi),hK.mono λk hk=>hk.1,λ_ _ h=>h.elim,λG' _=>hv G'⟩
 have hu0:=hu;simp only[V]at hu;obtain⟨cap,hcap,⟨he,hn,hc0,hu',_⟩|⟨b,off,rfl,hC,hq,hO⟩⟩:=hu
 ·have hl:l=[]:=List.length_eq_zero_iff.1 hn;subst hl;exact hempty rfl (jY u) 0 hu' (by simp only[V];exact⟨0,Nat.le_refl _,.inl ⟨trivial,trivial,rfl,hu',trivial⟩⟩)
 ·rcases hO with⟨hn,_⟩|⟨hm,hF,hτ⟩
  ·have hl:l=[]:=List.length_eq_zero_iff.1 hn;subst hl;exact hempty rfl _ cap rfl (by simp only[V];exact⟨cap,Nat.zero_le _,.inr ⟨b,off,rfl,by simp only[VC],trivial⟩⟩)
  ·obtain⟨b',f,t,q1,q2⟩:=hR.own k (by rw[sT];exact ho);rw[hτ]at q1;cases q1;rcases q2 with q2|⟨_,q3,_,vs,T,q5,q6⟩;·omega
   obtain⟨us,h1,h2⟩:=VC.cells _ _ _ hC;have hus:=VL.ints_eq l us h1;subst hus;have hH:Holds (Value.int .i64) w b off l.toArray:=by
    intro j hj;have hj':j<l.length:=by simpa using hj
    refine⟨?_,by simp[World.frozen?,q5]⟩;rw[h2 j (by simpa using hj')];simp[hj']
   have hb:b<w.heap.size:=(Array.getElem?_eq_some_iff.1 q5).1;refine(zLN hH hb hsz hcap).mono ?_;rintro e w'⟨rfl,hK,hcell⟩;refine⟨_,b,λc o=>c=b/\off<=o/\o<off+(vG l).length,rfl,hF,q3,hK,?_,λG' hS=>?_⟩;·rintro c o⟨rfl,h1,h2⟩;exact⟨rfl,.int .i64 ((vG l)[o-off]'(by omega)),by have:=hcell (o-off) (by omega);rwa[show off+(o-off)=o by omega]at this⟩
   ·simp only[V];refine⟨cap,Nat.le_trans (nN l) hcap,.inr ⟨b,off,rfl,VC.of_cells _ _ b off (VL.ints (vG l)) (λi hi=>hS _ _ ⟨rfl,by omega,?_⟩) (λi hi=>?_),trivial⟩⟩
    ·have:i<(vG l).length:=by simpa using hi
     omega
    ·rw[hcell i (by simpa using hi)];simp
end Go.Proofs.YtohkcbcddindpaaGreat
namespace Go.Ab
open Go Go.RowKit
def kF:List (ByteArray×Int)->Nat->List MapEntry|[],_=>[]|p::m,c=>{key:=.string p.1,val:=.int .i64 p.2,born:=c}::kF m (c+1)
def zDy(m:List (ByteArray×Int)):yM:=.obj (.map ⟨kF m 0⟩ m.length)
def zEL:List (ByteArray×Int)->ByteArray->Int|[],_=>0|p::m,k=>if(k==p.1)=true then p.2 else zEL m k
def u4:List (ByteArray×Int)->ByteArray->Int->List (ByteArray×Int)|[],k,v=>[(k,v)]|p::m,k,v=>if(k==p.1)=true then(k,v)::m else p::u4 m k v
def zBy:List (ByteArray×Int)->ByteArray->Nat->Option (Nat×Value)|[],_,_=>none|p::m,k,i=>if(k==p.1)=true then some (i,.int .i64 p.2)else zBy m k (i+1)
theorem iL(k:ByteArray):∀(m:List (ByteArray×Int))(c i:Nat),Instr.findNow .string (.string k) (kF m c) i=some (zBy m k i)|[],_,_=>rfl|p::m,c,i=>by simp only[kF,Instr.findNow,Instr.sameNow,zBy];cases hb:(k==p.1)with|true=>rfl|false=>simp only[Bool.false_eq_true,if_false];exact iL k m (c+1) (i+1)
theorem zEM(k:ByteArray):∀(m:List (ByteArray×Int))(i:Nat),zLf (zBy m k i) (.int .i64 0)=ai (zEL m k)|[],_=>rfl|p::m,i=>by simp only[zBy,zEL];cases hb:(k==p.1)with|true=>rfl|false=>simp only[Bool.false_eq_true,if_false];exact zEM k m (i+1)
theorem zEN(k:ByteArray)(v:Int):∀(m:List (ByteArray×Int))(c i:Nat),(match zBy m k i with|some (j,_)=>i<=j/\(kF m c).modify (j-i) (λe=>{e with key:=.string k,val:=.int .i64 v})=kF (u4 m k v) c/\(u4 m k v).length=m.length|none=>kF m c++[{key:=.string k,val:=.int .i64 v,born:=c+m.length}]=kF (u4 m k v) c/\(u4 m k v).length=m.length+1)|[],c,i=>by simp[zBy,u4,kF]|p::m,c,i=>by simp only[zBy,u4];cases hb:(k==p.1)with|true=>simp[kF]|false=>simp only[Bool.false_eq_true,if_false];have ih:=zEN k v m (c+1) (i+1);cases hm:zBy m k (i+1)with|none=>rw[hm]at ih;simp only at ih⊢;refine⟨?_,by simp[ih.2]⟩;simp only[kF,List.cons_append,List.length_cons];rw[<-ih.1,show c+(m.length+1)=c+1+m.length by omega]|some q=>obtain⟨j,u⟩:=q;rw[hm]at ih;simp only at ih⊢;refine⟨by omega,?_,by simp[ih.2.2]⟩;simp only[kF];rw[show j-i=(j-(i+1))+1 by omega,List.modify_succ_cons,ih.2.1]
variable{P:Program}{t kt et:TypeId}{ie:TypeInfo}
theorem zYJ(ht:P.underlying t=some (.map kt et))(hk:P.underlying kt=some .string)(he:P.info? et=some ie)(hz:ie.zero=some (.int .i64 0))(m:List (ByteArray×Int))(k:ByteArray):Ob.ok P (.lk t (zDy m) (at' k) false (ai (zEL m k))):=by intro ev i s hl;unfold kB;simp only[ht,at',hk,he,zDy]at hl⊢;simp only[hl,hz,iL,sS,cond_true,Bool.false_eq_true,if_false,zEM]
theorem zYK(ht:P.underlying t=some (.map kt et))(hk:P.underlying kt=some .string)(m:List (ByteArray×Int))(k:ByteArray)(v:Int):Ob.ok P (.mu t (zDy m) (at' k) (ai v) (zDy (u4 m k v))):=by intro ev i s hl;unfold rL;simp only[ht,at',ai,hk,zDy]at hl⊢;simp only[hl,iL,sS,cond_true];have h:=zEN k v m 0 0;cases hm:zBy m k 0 with|none=>rw[hm]at h;simp only[Nat.zero_add]at h⊢;rw[h.2,<-h.1];simp|some q=>
 obtain⟨j,u⟩:=q;rw[hm]at h;simp only[Nat.sub_zero]at h⊢;have e:(⟨kF m 0⟩:Array MapEntry).modify j (λe=>{e with key:=.string k,val:=.int .i64 v})=⟨kF (u4 m k v) 0⟩:=by apply Array.ext';rw[Array.toList_modify];exact h.2.1
 rw[h.2.2,e]
def u5(s:ByteArray)(i:Int):Option Int:=if 0<=i then(match s[i.toNat]? with|some b=>some (b.toNat:Int)|none=>none)else none
theorem zOe{k:IntKind}(ht:P.underlying t=some .string){s:ByteArray}{i x:Int}(h:u5 s i=some x):iA P t (at' s) (.val (.int k i))=some (.val (.int .u8 x)):=by
 unfold u5 at h;unfold iA;simp only[ht,at'];split at h
 ·rename_i h0;rw[if_pos h0];split at h
  ·rename_i b hb;cases h;rw[hb]
  ·cases h
 ·cases h
end Go.Ab
namespace Go.Ab
open Go Go.RowKit
structure Sub(G G':Gh)(p:Nat->Prop):Prop where
 F:G'.F=G.F
 ρ:∀i b,p i->G.ρ i=some b->G'.ρ i=some b
 τ:∀k q,G.τ k=some q->G'.τ k=some q
 L:∀b o,G.L b o->G'.L b o
 N:∀i,p i->G.N i->G'.N i
mutual theorem V.less{G G':Gh}{w:World}{p:Nat->Prop}(h:Sub G G' p):∀(a:AV)(u:Value),a.fine p->V G w a u->V G' w a u
 |.val v,u,_,hv=>by simpa only[V]using hv|.agg cs,u,hi,hv=>by simp only[V,AV.fine]at hi hv⊢;obtain⟨vs,rfl,hl⟩:=hv;exact⟨vs,rfl,VL.less h cs vs hi hl⟩|.tup cs,u,hi,hv=>by simp only[V,AV.fine]at hi hv⊢;obtain⟨vs,rfl,hl⟩:=hv;exact⟨vs,rfl,VL.less h cs vs hi hl⟩|.sl es n o,u,hi,hv=>by
  simp only[V,AV.fine]at hi hv⊢;obtain⟨cap,hc,hh⟩:=hv;refine⟨cap,hc,?_⟩;rcases hh with⟨rfl,h2,h3,h4,h5⟩|⟨b,off,hu,hcells,ho⟩;·exact .inl ⟨rfl,h2,h3,h4,h5.mono h.τ⟩
  ·exact .inr ⟨b,off,hu,VC.data h.L es b off hi hcells,ho.mono h.F h.τ⟩|.ip es,u,hi,hv=>by simp only[V,AV.fine]at hi hv⊢;obtain⟨b,off,hu,hcells⟩:=hv;exact⟨b,off,hu,VC.data h.L es b off hi hcells⟩|.mp i off,u,hi,hv=>by simp only[V,AV.fine]at hi hv⊢;obtain⟨b,hb,hu⟩:=hv;exact⟨b,h.ρ _ _ hi hb,hu⟩|.ms i off n c sz,u,hi,hv=>by
  simp only[V,AV.fine]at hi hv⊢;rcases hv with⟨b,cap,hb,hu⟩|⟨hn,hN,hu⟩;·exact .inl ⟨b,cap,h.ρ _ _ hi hb,hu⟩
  ·exact .inr ⟨hn,h.N _ hi hN,hu⟩|.obj i,u,hi,hv=>by simp only[V,AV.fine]at hi hv⊢;obtain⟨b,hb,hu⟩:=hv;exact⟨b,h.ρ _ _ hi hb,hu⟩|.clo g fs cs,u,hi,hv=>by simp only[V,AV.fine]at hi hv⊢;obtain⟨l,r',hu,h1,h2⟩:=hv;exact⟨l,r',hu,VL.less h fs l hi.1 h1,VL.less h cs r' hi.2 h2⟩theorem VL.less{G G':Gh}{w:World}{p:Nat->Prop}(h:Sub G G' p):∀(as0:List AV)(us:List Value),AV.fineL p as0->VL G w as0 us->VL G' w as0 us|[],[],_,_=>by simp only[VL]|a::as0,u::us,hi,hv=>by simp only[VL,AV.fineL]at hi hv⊢;exact⟨V.less h a u hi.1 hv.1,VL.less h as0 us hi.2 hv.2⟩|[],_::_,_,hv=>by simp only[VL]at hv|_::_,[],_,hv=>by simp only[VL]at hv end
mutual def AV.fz(m:Nat)(cs:List AV):AV->AV|.val v=>.val v|.agg l=>.agg (AV.fzL m cs l)|.tup l=>.tup (AV.fzL m cs l)|.sl es n o=>.sl es n o|.ip es=>.ip es|.mp i off=>.mp i off|.ms i off n c sz=>bif Nat.beq i m then .sl (cs.drop off) n .no else .ms i off n c sz|.obj i=>.obj i|.clo g a b=>.clo g a b def AV.fzL(m:Nat)(cs:List AV):List AV->List AV|[]=>[]|a::l=>AV.fz m cs a::AV.fzL m cs l end
mutual def AV.fzOk(m:Nat):AV->Prop|.val _=>True|.agg l=>AV.fzOkL m l|.tup l=>AV.fzOkL m l|.sl es _ _=>AV.DataL es|.ip es=>AV.DataL es|.mp i _=>i<m|.ms i off _ _ _=>(i=m/\off=0)\/i<m|.obj i=>i<m|.clo _ a b=>AV.fineL (λi=>i<m) a/\AV.fineL (λi=>i<m) b def AV.fzOkL(m:Nat):List AV->Prop|[]=>True|a::l=>AV.fzOk m a/\AV.fzOkL m l end
theorem u6:∀(l:List AV)(n:Nat),AV.DataL l->AV.DataL (l.drop n)|l,0,h=>by simpa using h|[],_+1,_=>trivial|_::l,n+1,h=>by simpa using u6 l n h.2
mutual theorem AV.fz_fine{m:Nat}{cs:List AV}(hc:AV.DataL cs):∀a:AV,a.fzOk m->(a.fz m cs).fine (λi=>i<m)
 |.val _,_=>trivial|.agg l,h=>AV.fzL_fine hc l h|.tup l,h=>AV.fzL_fine hc l h|.sl _ _ _,h=>h|.ip _,h=>h|.mp _ _,h=>h|.ms i off n c sz,h=>by simp only[AV.fz];cases hb:Nat.beq i m with|true=>exact u6 _ _ hc|false=>
  rcases h with⟨rfl,_⟩|h;·simp at hb
  ·exact h|.obj _,h=>h|.clo _ _ _,h=>h theorem AV.fzL_fine{m:Nat}{cs:List AV}(hc:AV.DataL cs):∀l:List AV,AV.fzOkL m l->AV.fineL (λi=>i<m) (AV.fzL m cs l)|[],_=>trivial|a::l,h=>⟨AV.fz_fine hc a h.1,AV.fzL_fine hc l h.2⟩end
mutual theorem V.fz{G G':Gh}{w:World}{m:Nat}{cs:List AV}(h:Sub G G' (λi=>i<m))(hm:∀b,G.ρ m=some b->VC G' w cs b 0)(hc:G.N m->cs=[]):∀(a:AV)(u:Value),a.fzOk m->V G w a u->V G' w (a.fz m cs) u
 |.val v,u,_,hv=>by simpa only[AV.fz,V]using hv|.agg l,u,hi,hv=>by simp only[V,AV.fzOk,AV.fz]at hi hv⊢;obtain⟨vs,rfl,hl⟩:=hv;exact⟨vs,rfl,VL.fz h hm hc l vs hi hl⟩|.tup l,u,hi,hv=>by simp only[V,AV.fzOk,AV.fz]at hi hv⊢;obtain⟨vs,rfl,hl⟩:=hv;exact⟨vs,rfl,VL.fz h hm hc l vs hi hl⟩|.sl es n o,u,hi,hv=>V.less h (.sl es n o) u hi hv|.ip es,u,hi,hv=>V.less h (.ip es) u hi hv|.mp i off,u,hi,hv=>V.less h (.mp i off) u hi hv|.ms i off n c sz,u,hi,hv=>by simp only[AV.fz];cases hb:Nat.beq i m with
  |false=>
   rcases hi with⟨rfl,_⟩|hi;·simp at hb
   ·exact V.less h (.ms i off n c sz) u hi hv|true=>
   have:=Nat.eq_of_beq_eq_true hb;subst this;simp only[V,cond_true]at hv⊢;rcases hi with⟨_,e0⟩|hi
   ·subst e0;rcases hv with⟨b,cap,hb',hn,o,rfl,hro⟩|⟨⟨e1,_⟩,hN,p,rfl⟩
    ·rcases hro with⟨eo,_⟩|⟨_,h0⟩
     ·subst eo;exact⟨cap,Nat.le_trans hn.1 hn.2,.inr ⟨b,_,rfl,by simpa using hm b hb',trivial⟩⟩
     ·exact absurd h0 (Nat.lt_irrefl _)
    ·rw[hc hN];subst e1;exact⟨0,Nat.le_refl 0,.inl ⟨rfl,(by first|rfl|trivial),(by first|rfl|trivial),rfl,trivial⟩⟩
   ·exact absurd hi (Nat.lt_irrefl _)
 |.obj i,u,hi,hv=>V.less h (.obj i) u hi hv|.clo g a b,u,hi,hv=>V.less h (.clo g a b) u hi hv theorem VL.fz{G G':Gh}{w:World}{m:Nat}{cs:List AV}(h:Sub G G' (λi=>i<m))(hm:∀b,G.ρ m=some b->VC G' w cs b 0)(hc:G.N m->cs=[]):∀(as0:List AV)(us:List Value),AV.fzOkL m as0->VL G w as0 us->VL G' w (AV.fzL m cs as0) us|[],[],_,_=>by simp only[AV.fzL,VL]|a::as0,u::us,hi,hv=>by simp only[VL,AV.fzOkL,AV.fzL]at hi hv⊢;exact⟨V.fz h hm hc a u hi.1 hv.1,VL.fz h hm hc as0 us hi.2 hv.2⟩|[],_::_,_,hv=>by simp only[VL]at hv|_::_,[],_,hv=>by simp only[VL]at hv end
def zEO(m:Nat):List (Nat×yM)->List (Nat×yM)|[]=>[]|p::l=>bif Nat.blt p.1 m then p::zEO m l else zEO m l
theorem dN{m:Nat}:∀(l:List (Nat×yM))(i:Nat),look (zEO m l) i=if i<m then look l i else none|[],i=>by simp[zEO,look]|p::l,i=>by simp only[zEO];cases hb:Nat.blt p.1 m with
 |true=>have hb':p.1<m:=Nat.le_of_ble_eq_true hb;simp only[cond_true,look,dN l i];cases he:Nat.beq i p.1 with|true=>have:=Nat.eq_of_beq_eq_true he;simp only[cond_true];rw[if_pos (by omega)]|false=>simp only[cond_false]
 |false=>
  have hb':¬p.1<m:=by intro h;rw[Nat.blt,Nat.ble_eq_true_of_le h]at hb;cases hb
  simp only[cond_false,look,dN l i];cases he:Nat.beq i p.1 with|true=>have:=Nat.eq_of_beq_eq_true he;rw[if_neg (by omega),if_neg (by omega)]|false=>simp only[cond_false]
def yM.alive:yM->Bool|.dead=>false|_=>true
theorem uG.freeze{P:Program}{f:FuncId}{H0 H1:List yM}{args cs:List AV}{res:AV}{nst:Nat}(h:uG P f H0 args res (H1++[.row cs]) nst)(hle:H0.length<=H1.length)(hH1:∀X∈H1,X.fine (λi=>i<H1.length))(hcs:AV.DataL cs)(hr:res.fzOk H1.length)(hnd:H1.all yM.alive=true):uG P f H0 args (res.fz H1.length cs) H1 nst:=by
 intro G0 W cargs hB hR hv;refine(h G0 W cargs hB hR hv).mono ?_;rintro e W'⟨u,G',s',rfl,hE,hR',hu,hb,ho⟩;have hm:look s'.H H1.length=some (.row cs):=hb H1.length _ (by simp);have hm':(yX (vW 0) s').H H1.length=some (.row cs):=by rw[xV];exact hm
 have real:∀b,G'.ρ H1.length=some b->¬G'.F b/\∃us:List Value,us.length=cs.length/\VL G' W' cs us/\∀i(hi:i<us.length),W'.cell? ⟨b,0+i,none⟩=some us[i]:=by
  intro b hρ;obtain⟨hF,vs,T,hh,us,rest,hus,hvl⟩:=hR'.blk H1.length b _ hρ hm';refine⟨hF,us,VL.length _ _ hvl,hvl,λi hi=>?_⟩;have:vs[i]?=some us[i]:=by
   have h1:vs.toList[i]?=some us[i]:=by rw[hus,List.getElem?_append_left hi,List.getElem?_eq_getElem hi]
   simpa using h1
  rw[Nat.zero_add];simp[World.cell?,hh,this]
 have hNn:G'.N H1.length->cs=[]:=λe=>yM.void_row (hR'.Nvoid e hm');let G'':Gh:={G' with ρ:=λi=>if i<H1.length then G'.ρ i else none,L:=λc o=>G'.L c o\/(G'.ρ H1.length=some c/\o<cs.length),N:=λi=>i<H1.length/\G'.N i};have hS:Sub G' G'' (λi=>i<H1.length):=⟨rfl,λi b hi e=>by show(if i<H1.length then G'.ρ i else none)=_;rw[if_pos hi];exact e,λ_ _ e=>e,λ_ _ e=>.inl e,λ_ hi e=>⟨hi,e⟩⟩;have hC:∀b,G'.ρ H1.length=some b->VC G'' W' cs b 0:=λb hρ=>by obtain⟨_,us,hlen,hvl,hcell⟩:=real b hρ;exact VC.of_cells cs us b 0 (VL.data hS.L cs us hcs hvl) (λi hi=>.inr ⟨hρ,by omega⟩) hcell
 have hσ:∀i,(yX (vW 0) {s' with H:=zEO H1.length s'.H}).H i=if i<H1.length then look s'.H i else none:=λi=>by rw[xV];exact dN _ _
 have hσ':∀i,(yX (vW 0) s').H i=look s'.H i:=λi=>xV _ _;refine⟨u,G'',{s' with H:=zEO H1.length s'.H},rfl,⟨λi c hc=>?_,hE.τ,λc o e=>.inl (hE.L c o e),hE.cell,hE.w0,hE.F,λc o e=>?_,hE.room,λi e=>?_⟩,⟨λi=>?_,⟨H1.length,λi hi=>?_⟩,λi j c hi hj=>?_,λi c X hi hX=>?_,λc o hL=>?_,hR'.τns,λk hk=>?_,hR'.ownd,hR'.below,hR'.base⟩,V.fz hS hC hNn _ _ hr hu,λi X hX=>?_,ho⟩
 ·have hi:i<H0.length:=Nat.lt_of_not_le λhge=>by rw[(hB.ρ i hge).1]at hc;cases hc
  show(if i<H1.length then G'.ρ i else none)=_;rw[if_pos (by omega)];exact hE.ρ i c hc
 ·rcases e with e|⟨e,_⟩;·exact hE.newL c o e
  ·exact .inr (by rw[<-hE.F];exact(real c e).1)
 ·have hi:i<H0.length:=Nat.lt_of_not_le λhge=>(hB.ρ i hge).2 e;exact⟨by omega,hE.N i e⟩
 ·rw[hσ];show jZ (if i<H1.length then G'.ρ i else none) (i<H1.length/\G'.N i) _;have hd:=hR'.dom i;rw[hσ']at hd;split;·rename_i hi;exact⟨λq=>(hd.1 q).imp (λr=>⟨hi,r⟩) id,λq=>⟨(hd.2.1 q).1,λr=>(hd.2.1 q).2 r.2⟩,λr=>hd.2.2 r.2⟩
  ·rename_i hi;exact⟨λ_=>.inr rfl,λ_=>⟨rfl,λr=>hi r.1⟩,λr=>absurd r.1 hi⟩
 ·rw[hσ,if_neg (by omega)]
 ·have hi':(if i<H1.length then G'.ρ i else none)=some c:=hi;have hj':(if j<H1.length then G'.ρ j else none)=some c:=hj;split at hi'
  ·split at hj'
   ·rename_i h1 h2;rw[hσ,hσ,if_pos h1,if_pos h2,<-hσ',<-hσ'];exact hR'.inj i j c hi' hj'
   ·cases hj'
  ·cases hi'
 ·have hi':(if i<H1.length then G'.ρ i else none)=some c:=hi;split at hi'
  ·rename_i hlt;rw[hσ,if_pos hlt]at hX;obtain⟨q1,q2⟩:=hR'.blk i c X hi' (by rw[hσ'];exact hX);refine⟨q1,?_⟩;have hget:(H1++[.row cs])[i]?=some H1[i]:=by rw[List.getElem?_append_left hlt,List.getElem?_eq_getElem hlt]
   have:=hb i _ hget;rw[this]at hX;cases hX;have hf:=hH1 _ (List.getElem_mem hlt);cases hY:H1[i]with|cells ds=>rw[hY]at q2 hf;obtain⟨vs',T',q3,q4⟩:=q2;exact⟨vs',T',q3,q4.imp λus=>VL.less hS _ us hf⟩|obj o=>rw[hY]at q2;exact q2|row ds=>rw[hY]at q2 hf;obtain⟨vs',T',q3,q4⟩:=q2;exact⟨vs',T',q3,q4.imp λus=>VL.data hS.L _ us hf⟩|dead=>rw[hY]at q2;exact q2
  ·cases hi'
 ·rcases hL with hL|⟨hρ,hlt⟩
  ·obtain⟨q1,q2⟩:=hR'.live c o hL;refine⟨q1,λi hi=>?_⟩;have hi':(if i<H1.length then G'.ρ i else none)=some c:=hi;split at hi';·exact q2 i hi'
   ·cases hi'
  ·obtain⟨_,us,hlen,hvl,hcell⟩:=real c hρ;refine⟨⟨us[o]'(by omega),?_⟩,λi hi=>?_⟩
   ·have:=hcell o (by omega);rwa[Nat.zero_add]at this
   ·have hi':(if i<H1.length then G'.ρ i else none)=some c:=hi;split at hi'
    ·rename_i hlt';have hi2:look s'.H i=some H1[i]:=hb i _ (by rw[List.getElem?_append_left hlt',List.getElem?_eq_getElem hlt']);rcases hR'.inj i H1.length c hi' hρ with this|this|this;·omega
     ·rw[hσ',hi2]at this;have h3:=List.all_eq_true.1 hnd _ (List.getElem_mem hlt');rw[Option.some.inj this]at h3;cases h3
     ·rw[hσ',hm]at this;cases this
    ·cases hi'
 ·obtain⟨c,f1,t,q1,q2|⟨q2,q3,q4,q5⟩⟩:=hR'.own k hk;·exact⟨c,f1,t,q1,.inl q2⟩
  ·refine⟨c,f1,t,q1,.inr ⟨q2,λi hi=>?_,λo h1 h2 hL=>?_,q5⟩⟩
   ·have hi':(if i<H1.length then G'.ρ i else none)=some c:=hi;split at hi';·exact q3 i hi'
    ·cases hi'
   ·rcases hL with hL|⟨hρ,_⟩;·exact q4 o h1 h2 hL
    ·exact q3 _ hρ
 ·have hlt:=(List.getElem?_eq_some_iff.1 hX).1;show look (zEO H1.length s'.H) i=some X;rw[dN,if_pos hlt];exact hb i X (by rw[List.getElem?_append_left hlt];exact hX)
theorem CT.freeze{P:Program}{f:FuncId}{H0 H1:List yM}{args cs:List AV}{res res':AV}{nst:Nat}(h:CT P f H0 args res (H1++[.row cs]) nst)(hle:H0.length<=H1.length)(hH1:∀X∈H1,X.fine (λi=>i<H1.length))(hcs:AV.DataL cs)(hr:res.fzOk H1.length)(hnd:H1.all yM.alive=true)(e:res.fz H1.length cs=res'):CT P f H0 args res' H1 nst:=by subst e;exact⟨h.tri.freeze hle hH1 hcs hr hnd,h.args,h.H0,AV.fz_fine hcs _ hr,hH1⟩
theorem zBC{G0 G':Gh}{W W':World}{s':yW}{u:Value}(sz:Nat)(hB:zAY (0:Nat) G0)(hE:wV G0 W G' W')(hR':yK G' (yX (vW 0) s') W')(hu:∃cap b o,(cap=0)/\(u=.slice (jY u) 0 0\/u=.slice (some ⟨b,o,none⟩) 0 cap)):∃u' G'' s'',Ending.returned u=.returned u'/\wV G0 W G'' W'/\yK G'' (yX (vW 0) s'') W'/\V G'' W' (.sl [] 0 (.st 0 sz)) u'/\(∀i X,([]:List yM)[i]?=some X->look s''.H i=some X)/\∀k,k<1->s''.own.any (Nat.beq k)=true:=by
 let G'':Gh:={G' with ρ:=λ_=>none,τ:=λk=>if k=0 then some (0,1,0)else none,N:=λ_=>False};refine⟨u,G'',{s' with H:=[],own:=[0],ns:=1},rfl,⟨λi c hc=>?_,λk r hk=>?_,hE.L,hE.cell,hE.w0,hE.F,hE.newL,λi c m hc=>?_,λi e=>absurd e (hB.ρ i (Nat.zero_le _)).2⟩,⟨λi=>?_,⟨0,λi _=>?_⟩,λi j c hi=>?_,λi c X hi=>?_,λc o hL=>?_,λk hk=>?_,λk hk=>?_,λk k' _ _ _ _ _ hk hk'=>?_,hR'.below,hR'.base⟩,?_,λi X hX=>?_,λk hk=>?_⟩;·rw[(hB.ρ i (Nat.zero_le _)).1]at hc;cases hc
 ·rw[hB.τ k]at hk;cases hk
 ·rw[(hB.ρ i (Nat.zero_le _)).1]at hc;cases hc
 ·rw[xV];exact⟨λ_=>.inr rfl,λ_=>⟨rfl,id⟩,λe=>e.elim⟩
 ·rw[xV];rfl
 ·cases hi
 ·cases hi
 ·exact⟨(hR'.live c o hL).1,λi hi=>by cases hi⟩
 ·have hk1:1<=k:=hk;show(if k=0 then some (0,1,0)else none)=none;rw[if_neg (by omega)]
 ·rw[sT]at hk;have e:k=0:=by simpa using hk
  subst e;exact⟨0,1,0,rfl,.inl (by decide)⟩
 ·rw[sT]at hk hk';have e:k=0:=by simpa using hk
  have e':k'=0:=by simpa using hk'
  intros;omega
 ·obtain⟨cap,b,o,rfl,hu|rfl⟩:=hu
  ·simp only[V];exact⟨0,Nat.le_refl 0,.inl ⟨(by trivial),(by trivial),(by trivial),hu,_,rfl⟩⟩
  ·simp only[V];exact⟨0,Nat.le_refl 0,.inl ⟨(by trivial),(by trivial),(by trivial),(by first|rfl|trivial),_,rfl⟩⟩
 ·cases hX
 ·have:k=0:=by omega
  subst this;rfl
theorem uG.freezeS{P:Program}{f:FuncId}{args cs:List AV}{n c sz:Nat}(h:uG P f [] args (.ms 0 0 n c sz) [.row cs] 0)(hcs:AV.DataL cs)(hl:cs.length=n*sz):uG P f [] args (.sl cs n (.st 0 sz)) [] 1:=by
 intro G0 W cargs hB hR hv;refine(h G0 W cargs hB hR hv).mono ?_;rintro e W'⟨u,G',s',rfl,hE,hR',hu,hb,-⟩;have hm:look s'.H 0=some (.row cs):=hb 0 _ (by simp);have hm':(yX (vW 0) s').H 0=some (.row cs):=by rw[xV];exact hm
 simp only[V]at hu;rcases hu with⟨b,cap,hρ,hn,o,rfl,hro⟩|⟨⟨e0,_⟩,hN,p,rfl⟩;rotate_left
 ·have hcs0:=yM.void_row (hR'.Nvoid hN hm');subst e0;try subst hcs0
  exact zBC sz hB hE hR' ⟨0,0,0,rfl,.inl rfl⟩
 obtain⟨hF,vs,T,hh,us,rest,hus,hvl⟩:=hR'.blk 0 b _ hρ hm';have hlen:=VL.length _ _ hvl;rcases hro with⟨rfl,vs2,T2,hh2,hroom⟩|⟨_,h0⟩;rotate_left;·exact absurd h0 (Nat.lt_irrefl _)
 rw[hh]at hh2;cases hh2;let G'':Gh:={G' with ρ:=λ_=>none,τ:=λk=>if k=0 then some (b,0+cs.length,0+cap*sz)else none,L:=λc o=>G'.L c o\/(c=b/\o<cs.length),N:=λ_=>False};have hcell:∀i(hi:i<us.length),W'.cell? ⟨b,0+i,none⟩=some us[i]:=by
  intro i hi;have:vs[i]?=some us[i]:=by
   have h1:vs.toList[i]?=some us[i]:=by rw[hus,List.getElem?_append_left hi,List.getElem?_eq_getElem hi]
   simpa using h1
  rw[Nat.zero_add];simp[World.cell?,hh,this]
 have hC:VC G'' W' cs b 0:=VC.of_cells cs us b 0 (VL.data (G':=G'') (λc o e=>Or.inl e) cs us hcs hvl) (λi hi=>.inr ⟨rfl,by omega⟩) hcell;refine⟨_,G'',{s' with H:=[],own:=[0],ns:=1},rfl,⟨λi c hc=>?_,λk r hk=>?_,λc o e=>.inl (hE.L c o e),hE.cell,hE.w0,hE.F,λc o e=>?_,λi c m hc=>?_,λi e=>absurd e (hB.ρ i (Nat.zero_le _)).2⟩,⟨λi=>?_,⟨0,λi _=>?_⟩,λi j c hi=>?_,λi c X hi=>?_,λc o hL=>?_,λk hk=>?_,λk hk=>?_,λk k' _ _ _ _ _ hk hk'=>?_,hR'.below,hR'.base⟩,?_,λi X hX=>?_,λk hk=>?_⟩;·rw[(hB.ρ i (Nat.zero_le _)).1]at hc;cases hc
 ·rw[hB.τ k]at hk;cases hk
 ·rcases e with e|⟨rfl,_⟩;·exact hE.newL c o e
  ·exact .inr (by rw[<-hE.F];exact hF)
 ·rw[(hB.ρ i (Nat.zero_le _)).1]at hc;cases hc
 ·rw[xV];exact⟨λ_=>.inr rfl,λ_=>⟨rfl,id⟩,λe=>e.elim⟩
 ·rw[xV];rfl
 ·cases hi
 ·cases hi
 ·rcases hL with hL|⟨rfl,hlt⟩;·exact⟨(hR'.live c o hL).1,λi hi=>by cases hi⟩
  ·refine⟨⟨us[o]'(by omega),?_⟩,λi hi=>by cases hi⟩;have:=hcell o (by omega);rwa[Nat.zero_add]at this
 ·have hk1:1<=k:=hk;show(if k=0 then some (b,0+cs.length,0+cap*sz)else none)=none;rw[if_neg (by omega)]
 ·rw[sT]at hk;have e:k=0:=by simpa using hk
  subst e;refine⟨b,0+cs.length,0+cap*sz,rfl,.inr ⟨hF,λi hi=>(by cases hi),λo h1 h2 hL=>?_,vs,T,hh,hroom⟩⟩;rcases hL with hL|⟨_,h3⟩;·exact(hR'.live b o hL).2 0 hρ
  ·omega
 ·rw[sT]at hk hk';have e:k=0:=by simpa using hk
  have e':k'=0:=by simpa using hk'
  intros;omega
 ·simp only[V];exact⟨cap,Nat.le_trans hn.1 hn.2,.inr ⟨b,0,rfl,hC,⟨_,rfl⟩,.inr ⟨hl,hF,rfl⟩⟩⟩
 ·cases hX
 ·have:k=0:=by omega
  subst this;rfl
theorem uG.stampNil{P:Program}{f:FuncId}{args:List AV}{sz:Nat}(h:uG P f [] args (.sl [] 0 .full) [] 0):uG P f [] args (.sl [] 0 (.st 0 sz)) [] 1:=by
 intro G0 W cargs hB hR hv;refine(h G0 W cargs hB hR hv).mono ?_;rintro e W'⟨u,G',s',rfl,hE,hR',hu,hb,-⟩;refine zBC sz hB hE hR' ?_;simp only[V]at hu;obtain⟨cap,hc,⟨_,_,h3,h4,_⟩|⟨b,off,rfl,_,ho⟩⟩:=hu;·exact⟨0,0,0,rfl,.inl h4⟩
 ·exact⟨cap,b,off,ho,.inr rfl⟩
theorem CT.freezeS{P:Program}{f:FuncId}{args cs:List AV}{n c sz:Nat}(h:CT P f [] args (.ms 0 0 n c sz) [.row cs] 0)(hcs:AV.DataL cs)(hl:cs.length=n*sz):CT P f [] args (.sl cs n (.st 0 sz)) [] 1:=⟨h.tri.freezeS hcs hl,h.args,h.H0,hcs,λ_ h=>nomatch h⟩
theorem CT.stampNil{P:Program}{f:FuncId}{args:List AV}{sz:Nat}(h:CT P f [] args (.sl [] 0 .full) [] 0):CT P f [] args (.sl [] 0 (.st 0 sz)) [] 1:=⟨h.tri.stampNil,h.args,h.H0,trivial,λ_ h=>nomatch h⟩
def gmk{α:Type}(B:Int)(d:α)(n:Int):Option (List α):=if 0<=n/\n*B<=140737488355328 then some (List.replicate n.toNat d)else none
def pX(n:Nat)(i:Int):Option Nat:=if 0<=i/\i<n then some i.toNat else none
def kR{α:Type}(l:List α)(k:Nat)(x:α):Option (List α):=if k<l.length then some (l.set k x)else none
def E1{α:Type}(n:Nat)(l:List α):Option (List α):=if l.length=n then some l else none
theorem sU{α:Type}{n:Nat}{l r:List α}(h:E1 n l=some r):r=l/\n=r.length:=by
 unfold E1 at h;split at h;·rename_i e;cases h;exact⟨rfl,e.symm⟩
 ·cases h
theorem zBD{f:Nat->AV}{s:Nat}(hs:0<s):∀n:Nat,(List.range (n*s)).map (λj=>f (j%s))=(List.replicate n ((List.range s).map f)).flatten|0=>by simp|n+1=>by rw[Nat.add_mul,Nat.one_mul,List.range_add,List.map_append,zBD hs n,List.replicate_succ',List.flatten_append];congr 1;simp only[List.map_map,List.flatten_cons,List.flatten_nil,List.append_nil];apply List.map_congr_left;intro j hj;have:j<s:=List.mem_range.1 hj;simp[Function.comp,Nat.add_comm (n*s) j,Nat.mod_eq_of_lt this]
theorem zEP{α:Type}{c:α->List AV}{d:α}:∀n:Nat,(List.replicate n (c d)).flatten=zC c (List.replicate n d)|0=>rfl|n+1=>by simp only[List.replicate_succ,List.flatten_cons,zC,List.flatMap_cons];rw[zEP n];rfl
theorem zYN{P:Program}{α:Type}{c:α->List AV}{sz:Nat}{t e:TypeId}{ie:TypeInfo}{z:Value}(ht:P.underlying t=some (.slice e))(hi:P.info? e=some ie)(hs:ie.size=sz)(hz:ie.zero=some z)(hzs:z.cells.size=sz)(h1:1<=sz){B:Nat}(hb:ie.bytes=B)(hB:1<=B){d:α}(hd:(List.range sz).map (λj=>(ofV 8 (z.cells.getD j undef)).frz)=c d){n:Int}{l:List α}(h:gmk (B:Int) d n=some l):Ob.ok P (.mk (mH P t (ai n) (ai n)) (zC c l) l.length):=by
 unfold gmk at h;split at h
 ·rename_i hc;cases h;show mH P t (ai n) (ai n)=some (zC c (List.replicate n.toNat d),(List.replicate n.toNat d).length);unfold mH;simp only[ht,hi,hz];have hb':(B:Int)>=1:=by omega
  have hn:n<=n*B:=by have:=Int.mul_le_mul_of_nonneg_left hb' hc.1;simpa using this
  rw[if_pos ⟨trivial,hc.1,by rw[hb];exact hc.2,by omega,by rw[hzs,hs],by rw[hs];exact h1⟩];simp only[List.length_replicate,Option.some.injEq,Prod.mk.injEq,and_true];rw[hs,hzs,zBD h1 (f:=λj=>(ofV 8 (z.cells.getD j undef)).frz),hd,zEP]
 ·cases h
theorem zDx{P:Program}{t e:TypeId}{ie:TypeInfo}(ht:P.underlying t=some (.slice e))(hi:P.info? e=some ie){sz:Nat}(hs:ie.size=sz){b n k c z:Nat}{i:Int}(h:pX n i=some k):xM P t (.ms b 0 n c z) (ai i)=some (.mp b (k*sz)):=by
 unfold pX at h;split at h
 ·rename_i hc;cases h;unfold xM;simp only[ht,hi];rw[if_pos hc,hs,Nat.zero_add]
 ·cases h
theorem zJM{α:Type}{c:α->List AV}{sz:Nat}(hc:vB c sz){l:List α}{k:Nat}{x:α}(h:zV l (k:Int)=some x):(zC c l).drop (k*sz)=c x++zC c (l.drop (k+1)):=by obtain⟨_,_,h2⟩:=mU h;exact zCW hc.len (by simpa using h2)
theorem zOd{α:Type}{c:α->List AV}{sz:Nat}(hc:vB c sz){l:List α}{k off:Nat}{x:α}(h:zV l (k:Int)=some x):(zC c l).drop (k*sz+off)=(c x++zC c (l.drop (k+1))).drop off:=by rw[<-List.drop_drop,zJM hc h]
theorem zEQ{α:Type}{c:α->List AV}{sz:Nat}(hc:∀x,(c x).length=sz):∀(l:List α)(k:Nat)(x:α),k<l.length->splice (zC c l) (k*sz) (c x)=zC c (l.set k x)
 |[],k,x,h=>by simp at h|y::l,0,x,h=>by simp only[splice,Nat.zero_mul,List.take_zero,List.nil_append,Nat.zero_add,zC,List.flatMap_cons,List.set_cons_zero];rw[List.drop_left' (by rw[hc,hc])]|y::l,k+1,x,h=>by
  have ih:=zEQ hc l k x (by simpa using h);simp only[splice,zC]at ih;simp only[splice,zC,List.flatMap_cons,List.set_cons_succ];rw[<-ih];have e:(k+1)*sz=sz+k*sz:=by rw[Nat.add_mul,Nat.one_mul,Nat.add_comm]
  rw[e,List.take_append,List.take_of_length_le (by rw[hc];omega),hc,Nat.add_sub_cancel_left,show sz+k*sz+(c x).length=sz+(k*sz+(c x).length)by omega,<-List.drop_drop,List.drop_left' (hc y)];simp only[List.append_assoc]
theorem zRZ{P:Program}{α:Type}{c:α->List AV}{sz:Nat}(hc:vB c sz){l l2:List α}{k:Nat}{x:α}(h:kR l k x=some l2):Ob.ok P (.wt (zC c l) (k*sz) (.agg (c x)) sz (zC c l2)):=by
 unfold kR at h;split at h;·rename_i hk;cases h;refine⟨hc.one x,hc.len x,?_,zEQ hc.len l k x hk⟩;rw[vL hc.len];have:=Nat.mul_le_mul_right sz (show k+1<=l.length from hk);rw[Nat.add_mul,Nat.one_mul]at this;exact this
 ·cases h
theorem zER{P:Program}{α:Type}{c:α->List AV}{sz:Nat}(hc:vB c sz){t e:TypeId}{ie:TypeInfo}(ht:P.underlying t=some (.slice e))(hi:P.info? e=some ie)(hs:ie.size=sz){l r:List α}{b:Int}{k k':IntKind}{o:Own}(h:kE l 0 b=some r):wW P t (.sl (zC c l) l.length o) none (some (.val (.int k b))) (some (.val (.int k' b)))=some (.sl (zC c r) r.length .full):=by
 obtain⟨_,h1,h2,rfl⟩:=Z9 h;subst hs;have key:wW P t (.sl (zC c l) l.length o) none (some (.val (.int k b))) (some (.val (.int k' b)))=some (.sl (zC c (l.take b.toNat)) (l.take b.toNat).length (o.cut 0 b.toNat (Nat.beq b.toNat l.length) (Nat.beq b.toNat b.toNat))):=by
  unfold wW;simp only[ht,hi,amx,aG,xX];rw[if_pos ⟨h1,h2⟩];simp only[Option.map_some];have hbb:(0<=b/\b<=(b.toNat:Nat)):=⟨h1,by omega⟩;rw[if_pos hbb];simp only[Option.isSome_some,Option.isNone_some,Bool.false_eq_true,and_false,if_false];rw[if_pos (by rw[vL hc.len];simp)];simp only[Nat.sub_zero,Nat.zero_mul,List.drop_zero,Bool.true_and];rw[mT hc.len];have hl:(l.take b.toNat).length=b.toNat:=by simp;omega
  rw[hl]
 rw[key];simp only[Own.cut,Nat.beq_refl,if_true,Int.sub_zero,Int.toNat_zero,List.drop_zero]
theorem zSz{P:Program}{t e:TypeId}{ie:TypeInfo}(ht:P.underlying t=some (.slice e))(hi:P.info? e=some ie){sz:Nat}(hs:ie.size=sz){b o n k c z:Nat}{i:Int}(h:pX n i=some k):xM P t (.ms b (o*sz) n c z) (ai i)=some (.mp b ((o+k)*sz)):=by
 unfold pX at h;split at h
 ·rename_i hc;cases h;unfold xM;simp only[ht,hi];rw[if_pos hc,hs,Nat.add_mul]
 ·cases h
def kS(n:Nat)(a b:Int):Option (Nat×Nat):=if 0<=a/\a<=b/\b<=n then some (a.toNat,(b-a).toNat)else none
theorem K7{n:Nat}{a b:Int}{r:Nat×Nat}(h:kS n a b=some r):0<=a/\a<=b/\b<=n/\r.1=a.toNat/\r.2=b.toNat-a.toNat:=by
 unfold kS at h;split at h
 ·rename_i q;cases h;exact⟨q.1,q.2.1,q.2.2,rfl,by show(b-a).toNat=_;omega⟩
 ·cases h
theorem zES{P:Program}{t e:TypeId}{ie:TypeInfo}(ht:P.underlying t=some (.slice e))(hi:P.info? e=some ie){sz:Nat}(hs:ie.size=sz)(h1:1<=sz){b o n c m:Nat}{x y:Int}{r:Nat×Nat}{lo hi':Option AV}(hm:msb n c hi' none=m)(h:kS m x y=some r)(hlo:∀h,xX h 0 lo=if 0<=x/\x<=h then some x.toNat else none)(hhi:xX m m hi'=if 0<=y/\y<=m then some y.toNat else none):wW P t (.ms b (o*sz) n c sz) lo hi' none=some (.ms b ((o+r.1)*sz) r.2 (c-r.1) sz):=by obtain⟨q1,q2,q3,q4,q5⟩:=K7 h;subst hs;unfold wW;simp only[ht,hi,amx,hm,hhi];rw[if_pos ⟨by omega,q3⟩];simp only[hlo];rw[if_neg (by simp),if_pos ⟨q1,by omega⟩];simp only;rw[if_pos ⟨trivial,h1⟩,q4,q5,Nat.add_mul];rfl
theorem zVH{P:Program}{t e:TypeId}{ie:TypeInfo}(ht:P.underlying t=some (.slice e))(hi:P.info? e=some ie){sz:Nat}(hs:ie.size=sz)(h1:1<=sz){b o n c:Nat}{x y:Int}{r:Nat×Nat}(h:kS c x y=some r):wW P t (.ms b (o*sz) n c sz) (some (ai x)) (some (ai y)) none=some (.ms b ((o+r.1)*sz) r.2 (c-r.1) sz):=zES ht hi hs h1 rfl h (λ_=>rfl) rfl
theorem u7{P:Program}{t e:TypeId}{ie:TypeInfo}(ht:P.underlying t=some (.slice e))(hi:P.info? e=some ie){sz:Nat}(hs:ie.size=sz)(h1:1<=sz){b o n c:Nat}{x:Int}{r:Nat×Nat}(h:kS n x n=some r):wW P t (.ms b (o*sz) n c sz) (some (ai x)) none none=some (.ms b ((o+r.1)*sz) r.2 (c-r.1) sz):=zES ht hi hs h1 rfl h (λ_=>rfl) (by simp[xX,msb])
theorem zOc{P:Program}{t e:TypeId}{ie:TypeInfo}(ht:P.underlying t=some (.slice e))(hi:P.info? e=some ie){sz:Nat}(hs:ie.size=sz)(h1:1<=sz){b off n c:Nat}{y:Int}{r:Nat×Nat}(h:kS c 0 y=some r):wW P t (.ms b off n c sz) none (some (ai y)) none=some (.ms b off r.2 c sz):=by
 obtain⟨q1,q2,q3,q4,q5⟩:=K7 h;subst hs;have h2:xX c c (some (ai y))=some y.toNat:=by show(if 0<=y/\y<=(c:Int)then some y.toNat else none)=_;rw[if_pos ⟨by omega,q3⟩]
 unfold wW;simp only[ht,hi,amx,show msb n c (some (ai y)) none=c from rfl,h2];rw[if_neg (by simp)];simp only[xX];rw[if_pos ⟨trivial,h1⟩,q5];simp
theorem zLP{P:Program}{t e:TypeId}{ie:TypeInfo}(ht:P.underlying t=some (.slice e))(hi:P.info? e=some ie){sz:Nat}(hs:ie.size=sz)(h1:1<=sz)(b off n c:Nat):wW P t (.ms b off n c sz) none (some (ai (n:Int))) (some (ai (n:Int)))=some (.ms b off n n sz):=by
 subst hs;have hc:aG n (ai (n:Int))=some n:=by show(if 0<=(n:Int)/\(n:Int)<=(n:Int)then some (n:Int).toNat else none)=_;rw[if_pos ⟨by omega,by omega⟩,Int.toNat_natCast]
 have hd:xX n n (some (ai (n:Int)))=some n:=hc;unfold wW;simp only[ht,hi,show msb n c (some (ai (n:Int))) (some (ai (n:Int)))=n from rfl,amx,hc,Option.map_some,hd];rw[if_neg (by simp)];simp only[xX];rw[if_pos ⟨trivial,h1⟩];simp
theorem zSy{P:Program}{t e:TypeId}{ie:TypeInfo}(ht:P.underlying t=some (.slice e))(hi:P.info? e=some ie){sz:Nat}(hs:ie.size=sz)(h1:1<=sz){b o n c:Nat}{x y:Int}{r:Nat×Nat}(h:kS n x y=some r):wW P t (.ms b (o*sz) n c sz) (some (ai x)) (some (ai y)) (some (ai (n:Int)))=some (.ms b ((o+r.1)*sz) r.2 (n-r.1) sz):=by
 obtain⟨q1,q2,q3,q4,q5⟩:=K7 h;subst hs;have hc:aG n (ai (n:Int))=some n:=by show(if 0<=(n:Int)/\(n:Int)<=(n:Int)then some (n:Int).toNat else none)=_;rw[if_pos ⟨by omega,by omega⟩,Int.toNat_natCast]
 have hd:xX n n (some (ai y))=some y.toNat:=by show(if 0<=y/\y<=(n:Int)then some y.toNat else none)=_;rw[if_pos ⟨by omega,q3⟩]
 have he:xX y.toNat 0 (some (ai x))=some x.toNat:=by show(if 0<=x/\x<=(y.toNat:Int)then some x.toNat else none)=_;rw[if_pos ⟨q1,by omega⟩]
 unfold wW;simp only[ht,hi,show msb n c (some (ai y)) (some (ai (n:Int)))=n from rfl,amx,hc,Option.map_some,hd];rw[if_neg (by simp)];simp only[he];rw[if_pos ⟨trivial,h1⟩,q4,q5,Nat.add_mul];rfl
theorem ldF{P:Program}{α:Type}{c:α->List AV}{sz:Nat}(hc:vB c sz){l:List α}{k:Nat}{x:α}(h:zV l (k:Int)=some x)(off:Nat)(q:Bool×Nat){val:AV}(e:qU q ((c x++zC c (l.drop (k+1))).drop off)=some val):Ob.ok P (.ld (qU q ((zC c l).drop (k*sz+off))) val):=by show qU q _=some val;rw[zOd hc h,e]
theorem ldE{P:Program}{α:Type}{c:α->List AV}{sz:Nat}(hc:vB c sz){l:List α}{k:Nat}{x:α}(h:zV l (k:Int)=some x)(q:Bool×Nat){val:AV}(e:qU q (c x++zC c (l.drop (k+1)))=some val):Ob.ok P (.ld (qU q ((zC c l).drop (k*sz))) val):=by show qU q _=some val;rw[zJM hc h,e]
theorem zLQ{α:Type}{c:α->List AV}{sz:Nat}(hc:∀x,(c x).length=sz){l:List α}{k off:Nat}{x x':α}{vs:List AV}(h:l[k]?=some x)(hv:off+vs.length<=sz)(e:splice (c x) off vs=c x'):splice (zC c l) (k*sz+off) vs=zC c (l.set k x'):=by
 obtain⟨hk,hx⟩:=List.getElem?_eq_some_iff.1 h;have h1:l=l.take k++x::l.drop (k+1):=by rw[<-hx];simp
 have h2:l.set k x'=l.take k++x'::l.drop (k+1):=List.set_eq_take_append_cons_drop.trans (by rw[if_pos hk]);have hlen:(zC c (l.take k)).length=k*sz:=by rw[vL hc,List.length_take,Nat.min_eq_left (Nat.le_of_lt hk)]
 have e1:zC c l=zC c (l.take k)++(c x++zC c (l.drop (k+1))):=by
  conv=>lhs;rw[h1]
  rw[<-fL];simp[zC]
 have e2:zC c (l.set k x')=zC c (l.take k)++(c x'++zC c (l.drop (k+1))):=by rw[h2,<-fL];simp[zC]
 rw[e1,e2,<-e];clear e1 e2 h1 h2;generalize zC c (l.drop (k+1))=R;generalize zC c (l.take k)=A at hlen⊢;simp only[splice];rw[List.take_append,List.take_of_length_le (by rw[hlen];omega),hlen,Nat.add_sub_cancel_left,show k*sz+off+vs.length=k*sz+(off+vs.length)by omega,List.drop_append,List.drop_of_length_le (by rw[hlen];omega),hlen,Nat.add_sub_cancel_left];rw[List.take_append_of_le_length (by rw[hc];omega),List.drop_append_of_le_length (by rw[hc];omega)];simp
theorem wtF{P:Program}{α:Type}{c:α->List AV}{sz:Nat}(hc:vB c sz){l l2:List α}{k:Nat}{x x':α}(hx:zV l (k:Int)=some x)(h:kR l k x'=some l2)(off m:Nat)(v:AV)(hs:v.sound=true)(hm:(rG v).length=m)(ho:off+m<=sz)(e:splice (c x) off (rG v)=c x'):Ob.ok P (.wt (zC c l) (k*sz+off) v m (zC c l2)):=by
 unfold kR at h;split at h
 ·rename_i hk;cases h;obtain⟨_,_,h2⟩:=mU hx;refine⟨hs,hm,?_,zLQ hc.len (by simpa using h2) (by omega) e⟩;rw[vL hc.len];have:=Nat.mul_le_mul_right sz (show k+1<=l.length from hk);rw[Nat.add_mul,Nat.one_mul]at this;omega
 ·cases h
theorem wtE{P:Program}{α:Type}{c:α->List AV}{sz:Nat}(hc:vB c sz){l l2:List α}{k:Nat}{x:α}{cs:List AV}(he:c x=cs)(h:kR l k x=some l2):Ob.ok P (.wt (zC c l) (k*sz) (.agg cs) sz (zC c l2)):=he▸zRZ hc h
def bW{α:Type}(l:List α)(o n:Nat):Option (List α):=if o+n<=l.length then some ((l.drop o).take n)else none
theorem aU{α:Type}{l r:List α}{o n:Nat}(h:bW l o n=some r):r=(l.drop o).take n/\r.length=n:=by
 unfold bW at h;split at h
 ·cases h;exact⟨rfl,by rw[List.length_take,List.length_drop];omega⟩
 ·cases h
theorem K8{P:Program}{α:Type}{c:α->List AV}{sz:Nat}(hc:vB c sz){t e:TypeId}{ie:TypeInfo}{z:Value}(ht:P.underlying t=some (.slice e))(hi:P.info? e=some ie)(hs:ie.size=sz)(hz:ie.zero=some z)(hzs:z.cells.size=sz)(h1:1<=sz){B:Nat}(hb:ie.bytes=B)(hB:1<=B){l m r:List α}(h:yZ B l m=some r)(hm:m.length≠0)(z1:Option Nat)(hz1:∀q,z1=some q->q=sz)(src:Option (Nat×Nat×Nat))(hsrc:∀q,src=some q->q.2.2=sz):lY P t t z1 (zC c l) l.length src (zC c m) m.length=some (zC c r,r.length):=by obtain⟨h2,rfl⟩:=qY h;subst hs;subst hb;have h3:(l.length+m.length)*1<=(l.length+m.length)*ie.bytes:=Nat.mul_le_mul_left _ hB;unfold lY;simp only[ht,hi,hz];rw[if_pos ⟨trivial,vL hc.len l,vL hc.len m,h1,hzs,h2,by omega,D2 hc.one m,hm,hz1,hsrc⟩,fL,List.length_append]
theorem u9{α:Type}{c:α->List AV}{sz:Nat}(hc:∀x,(c x).length=sz)(l:List α)(o n:Nat):bS (zC c l) (o*sz) n sz=zC c ((l.drop o).take n):=by unfold bS;rw[jD hc,mT hc]
theorem t6{P:Program}{α:Type}{c:α->List AV}{sz:Nat}(hc:vB c sz){t e:TypeId}{ie:TypeInfo}{z:Value}(ht:P.underlying t=some (.slice e))(hi:P.info? e=some ie)(hs:ie.size=sz)(hz:ie.zero=some z)(hzs:z.cells.size=sz)(h1:1<=sz){B:Nat}(hb:ie.bytes=B)(hB:1<=B){m r:List α}(h:yZ B ([]:List α) m=some r)(hm:m.length≠0):Ob.ok P (.mk (lY P t t none [] 0 none (zC c m) m.length) (zC c r) r.length):=K8 hc ht hi hs hz hzs h1 hb hB h hm none (λ_ h=>nomatch h) none (λ_ h=>nomatch h)
theorem jE{P:Program}{α:Type}{c:α->List AV}{sz:Nat}(hc:vB c sz){t e:TypeId}{ie:TypeInfo}{z:Value}(ht:P.underlying t=some (.slice e))(hi:P.info? e=some ie)(hs:ie.size=sz)(hz:ie.zero=some z)(hzs:z.cells.size=sz)(h1:1<=sz){B:Nat}(hb:ie.bytes=B)(hB:1<=B){l m r:List α}(h:yZ B l m=some r)(hm:m.length≠0):Ob.ok P (.mk (lY P t t (some sz) (zC c l) l.length none (zC c m) m.length) (zC c r) r.length):=K8 hc ht hi hs hz hzs h1 hb hB h hm _ (λ_ h=>(Option.some.inj h).symm) none (λ_ h=>nomatch h)
theorem zBE{P:Program}{α:Type}{c:α->List AV}{sz:Nat}(hc:vB c sz){t e:TypeId}{ie:TypeInfo}{z:Value}(ht:P.underlying t=some (.slice e))(hi:P.info? e=some ie)(hs:ie.size=sz)(hz:ie.zero=some z)(hzs:z.cells.size=sz)(h1:1<=sz){B:Nat}(hb:ie.bytes=B)(hB:1<=B){l l' m r:List α}{n:Nat}(hf:E1 n l=some l')(h:yZ B l' m=some r)(hm:m.length≠0):Ob.ok P (.mk (lY P t t (some sz) (zC c l) n none (zC c m) m.length) (zC c r) r.length):=by obtain⟨rfl,rfl⟩:=sU hf;exact jE hc ht hi hs hz hzs h1 hb hB h hm
theorem zOb{P:Program}{α:Type}{c:α->List AV}{sz:Nat}(hc:vB c sz){t e:TypeId}{ie:TypeInfo}{z:Value}(ht:P.underlying t=some (.slice e))(hi:P.info? e=some ie)(hs:ie.size=sz)(hz:ie.zero=some z)(hzs:z.cells.size=sz)(h1:1<=sz){B:Nat}(hb:ie.bytes=B)(hB:1<=B){l m' m r:List α}{o n j:Nat}(hp:bW m' o n=some m)(h:yZ B l m=some r)(hm:m.length≠0):Ob.ok P (.mk (lY P t t (some sz) (zC c l) l.length (some (j,j,sz)) (bS (zC c m') (o*sz) n sz) n) (zC c r) r.length):=by obtain⟨rfl,hn⟩:=aU hp;rw[u9 hc.len];have:=K8 hc ht hi hs hz hzs h1 hb hB h hm (some sz) (λ_ h=>(Option.some.inj h).symm) (some (j,j,sz)) (λ_ h=>by cases h;rfl);rw[hn]at this;exact this
theorem zSx{P:Program}{α:Type}{c:α->List AV}{sz:Nat}(hc:vB c sz){t e:TypeId}{ie:TypeInfo}(ht:P.underlying t=some (.slice e))(hi:P.info? e=some ie)(hs:ie.size=sz){l m r:List α}{n k:Nat}(hr:r=l.take n++m)(hn:n<=l.length)(hk:n+m.length<=k)(src:Option Nat)(hsrc:∀q,src=some q->q=sz):zHB P t t sz (zC c l) n k src (zC c m) m.length=some (zC c r):=by subst hs;subst hr;unfold zHB;simp only[ht,hi];rw[if_pos ⟨trivial,trivial,by rw[vL hc.len];exact Nat.mul_le_mul_right _ hn,vL hc.len m,hk,D2 hc.one m,hsrc⟩,mT hc.len,fL]
def zLR{α:Type}(c n:Nat)(l m:List α):Option (List α):=if n+m.length<=c/\n<=l.length then some (l.take n++m)else none
theorem zLS{α:Type}{c n:Nat}{l m r:List α}(h:zLR c n l m=some r):r=l.take n++m/\n<=l.length/\n+m.length<=c:=by
 unfold zLR at h;split at h;·rename_i q;cases h;exact⟨rfl,q.2,q.1⟩
 ·cases h
theorem zOa{P:Program}{α:Type}{c:α->List AV}{sz:Nat}(hc:vB c sz){t e:TypeId}{ie:TypeInfo}(ht:P.underlying t=some (.slice e))(hi:P.info? e=some ie)(hs:ie.size=sz){l m' m r:List α}{n k o n2:Nat}(hp:bW m' o n2=some m)(h:zLR k n l m=some r):Ob.ok P (.inp (zHB P t t sz (zC c l) n k (some sz) (bS (zC c m') (o*sz) n2 sz) n2) (zC c r)):=by obtain⟨rfl,hn⟩:=aU hp;obtain⟨q1,q2,q3⟩:=zLS h;rw[u9 hc.len];have:=zSx hc ht hi hs q1 q2 q3 (some sz) (λ_ h=>(Option.some.inj h).symm);rw[hn]at this;exact this
def gle(a b:Nat):Option Unit:=if a<=b then some ()else none
theorem zOA{a b:Nat}{u:Unit}(h:gle a b=some u):a<=b:=by
 unfold gle at h;split at h;·assumption
 ·cases h
theorem zVI{P:Program}{t e:TypeId}{ie:TypeInfo}{zv:Value}(ht:P.underlying t=some (.slice e))(hi:P.info? e=some ie)(hz:ie.zero=some zv){sz:Nat}(hzs:zv.cells.size=sz)(h1:zv.cells.toList.all Value.oneCell'=true){l off:Nat}(h:l<=off):Ob.ok P (.clr t l off sz):=⟨h,e,ie,zv,ht,hi,hz,hzs,h1⟩
theorem yBv{P:Program}{α:Type}{c:α->List AV}{sz:Nat}(hc:vB c sz){t e:TypeId}{ie:TypeInfo}{zv:Value}(ht:P.underlying t=some (.slice e))(hi:P.info? e=some ie)(hz:ie.zero=some zv)(hzs:zv.cells.size=sz)(h1:zv.cells.toList.all Value.oneCell'=true){l:List α}{o:Nat}{u:Unit}(h:gle l.length o=some u):Ob.ok P (.clr t (zC c l).length (o*sz) sz):=zVI ht hi hz hzs h1 (by rw[vL hc.len];exact Nat.mul_le_mul_right _ (zOA h))
theorem W0{P:Program}{t e:TypeId}{ie:TypeInfo}(ht:P.underlying t=some (.slice e))(hi:P.info? e=some ie){n:Nat}(h:n=0):Ob.ok P (.same t t n):=⟨rfl,h,e,ie,ht,hi⟩
def mF:List (Int×Int)->Nat->List MapEntry|[],_=>[]|p::m,c=>{key:=.int .i64 p.1,val:=.int .i64 p.2,born:=c}::mF m (c+1)
def aV(m:List (Int×Int)):yM:=.obj (.map ⟨mF m 0⟩ m.length)
def gO:List (Int×Int)->Int->Option Int|[],_=>none|p::m,k=>if(k==p.1)=true then some p.2 else gO m k
def zHU(m:List (Int×Int))(k:Int):Int:=match gO m k with|some v=>v|none=>0
def K9(m:List (Int×Int))(k:Int):Bool:=match gO m k with|some _=>true|none=>false
def bK:List (Int×Int)->Int->Int->List (Int×Int)|[],k,v=>[(k,v)]|p::m,k,v=>if(k==p.1)=true then(k,v)::m else p::bK m k v
def E2:List (Int×Int)->Int->Nat->Option (Nat×Value)|[],_,_=>none|p::m,k,i=>if(k==p.1)=true then some (i,.int .i64 p.2)else E2 m k (i+1)
theorem iM(k:Int):∀(m:List (Int×Int))(c i:Nat),Instr.findNow (.int .i64) (.int .i64 k) (mF m c) i=some (E2 m k i)|[],_,_=>rfl|p::m,c,i=>by simp only[mF,Instr.findNow,Instr.sameNow,E2,if_true];cases hb:(k==p.1)with|true=>rfl|false=>simp only[Bool.false_eq_true,if_false];exact iM k m (c+1) (i+1)
theorem t7(k:Int):∀(m:List (Int×Int))(i:Nat),(E2 m k i).map Prod.snd=(gO m k).map (Value.int .i64)|[],_=>rfl|p::m,i=>by simp only[E2,gO];cases hb:(k==p.1)with|true=>rfl|false=>simp only[Bool.false_eq_true,if_false];exact t7 k m (i+1)
theorem zOB(k:Int)(m:List (Int×Int)):zLf (E2 m k 0) (.int .i64 0)=ai (zHU m k):=by
 have h:=t7 k m 0;unfold zHU;cases h1:E2 m k 0<;>cases h2:gO m k<;>rw[h1,h2]at h;·rfl
 ·cases h
 ·cases h
 ·simp only[Option.map_some,Option.some.injEq]at h;rename_i q v;obtain⟨j,u⟩:=q;simp only at h;subst h;rfl
theorem zOC(k:Int)(m:List (Int×Int)):(E2 m k 0).isSome=K9 m k:=by
 have h:=t7 k m 0;unfold K9;cases h1:E2 m k 0<;>cases h2:gO m k<;>rw[h1,h2]at h;·rfl
 ·cases h
 ·cases h
 ·rfl
theorem E4:∀(m:List (Int×Int))(c:Nat),(mF m c).length=m.length|[],_=>rfl|_::m,c=>by simp[mF,E4 m (c+1)]
theorem zET(k v:Int):∀(m:List (Int×Int))(c i:Nat),(match E2 m k i with|some (j,_)=>i<=j/\(mF m c).modify (j-i) (λe=>{e with key:=.int .i64 k,val:=.int .i64 v})=mF (bK m k v) c/\(bK m k v).length=m.length|none=>mF m c++[{key:=.int .i64 k,val:=.int .i64 v,born:=c+m.length}]=mF (bK m k v) c/\(bK m k v).length=m.length+1)|[],c,i=>by simp[E2,bK,mF]|p::m,c,i=>by simp only[E2,bK];cases hb:(k==p.1)with|true=>simp[mF]|false=>simp only[Bool.false_eq_true,if_false];have ih:=zET k v m (c+1) (i+1);cases hm:E2 m k (i+1)with|none=>rw[hm]at ih;simp only at ih⊢;refine⟨?_,by simp[ih.2]⟩;simp only[mF,List.cons_append,List.length_cons];rw[<-ih.1,show c+(m.length+1)=c+1+m.length by omega]|some q=>obtain⟨j,u⟩:=q;rw[hm]at ih;simp only at ih⊢;refine⟨by omega,?_,by simp[ih.2.2]⟩;simp only[mF];rw[show j-i=(j-(i+1))+1 by omega,List.modify_succ_cons,ih.2.1]
variable{P:Program}{t kt et:TypeId}{ie:TypeInfo}
theorem zVJ(ht:P.underlying t=some (.map kt et))(hk:P.underlying kt=some (.int .i64))(he:P.info? et=some ie)(hz:ie.zero=some (.int .i64 0))(m:List (Int×Int))(k:Int):Ob.ok P (.lk t (aV m) (ai k) true (.tup [ai (zHU m k),ab (K9 m k)])):=by intro ev i s hl;unfold kB;simp only[ht,ai,hk,he,aV]at hl⊢;simp only[hl,hz,iM,sS,cond_true,if_true,zOB,zOC]
theorem zVK(ht:P.underlying t=some (.map kt et))(hk:P.underlying kt=some (.int .i64))(m:List (Int×Int))(k v:Int):Ob.ok P (.mu t (aV m) (ai k) (ai v) (aV (bK m k v))):=by intro ev i s hl;unfold rL;simp only[ht,ai,hk,aV]at hl⊢;simp only[hl,iM,sS,cond_true];have h:=zET k v m 0 0;cases hm:E2 m k 0 with|none=>rw[hm]at h;simp only[Nat.zero_add]at h⊢;rw[h.2,<-h.1];simp|some q=>
 obtain⟨j,u⟩:=q;rw[hm]at h;simp only[Nat.sub_zero]at h⊢;have e:(⟨mF m 0⟩:Array MapEntry).modify j (λe=>{e with key:=.int .i64 k,val:=.int .i64 v})=⟨mF (bK m k v) 0⟩:=by apply Array.ext';rw[Array.toList_modify];exact h.2.1
 rw[h.2.2,e]
theorem zVL(ht:P.underlying t=some (.map kt et))(m:List (Int×Int)):Ob.ok P (.ln t (aV m) (ai (m.length:Int))):=⟨_,_,_,_,rfl,ht,by simp[goInt,E4]⟩
end Go.Ab
namespace Go.Ab
open Go Go.RowKit
abbrev zP{α:Type}(c:α->List AV)(l:List α)(o:Own):AV:=.sl (zC c l) l.length o
abbrev lZ(n:Nat):List mS:=List.replicate n .no
structure OL(P:Program)(os:List mS)(ob:List Ob):Prop where ok:yR P ob
theorem yR.rev{P:Program}:∀(a b:List Ob),yR P a->yR P b->yR P (a.reverseAux b)|[],_,_,k=>k|x::a,b,h,k=>yR.rev a (x::b) h.2 ⟨h.1,k⟩
section
variable{P:Program}{os:List mS}{ob:List Ob}
theorem OL.nil:OL P [] []:=⟨trivial⟩
theorem oB{b b':Bool}(n:Nat)(h:b=b')(k:OL P os ob):OL P (.bit b'::(lZ n++os)) (.bit b b'::ob):=⟨⟨h,k.ok⟩⟩
theorem oA{x:Option AV}{a:AV}(n:Nat)(h:x=some a)(k:OL P os ob):OL P (.av a::(lZ n++os)) (.av x a::ob):=⟨⟨h,k.ok⟩⟩
theorem oC{f:FuncId}{H0:List yM}{args:List AV}{res:AV}{H1:List yM}{nst:Nat}(n:Nat)(ι:List Nat)(h:CT P f H0 args res H1 nst)(k:OL P os ob):OL P (.call ι H1 nst res none::(lZ n++os)) (.call f H0 args res H1 nst::ob):=⟨⟨h,k.ok⟩⟩
theorem oK{b b':Bool}{f:FuncId}{H0:List yM}{args:List AV}{res:AV}{H1:List yM}{nst:Nat}(n:Nat)(ι:List Nat)(hb:b=b')(h:CT P f H0 args res H1 nst)(k:OL P os ob):OL P (.call ι H1 nst res (some b')::(lZ n++os)) (.call f H0 args res H1 nst::.bit b b'::ob):=⟨⟨h,hb,k.ok⟩⟩
theorem oF{x:Option AV}{a:AV}(n:Nat)(h:∃a0,x=some a0/\a0.frz=a)(k:OL P os ob):OL P (.fz a::(lZ n++os)) (.fz x a::ob):=⟨⟨h,k.ok⟩⟩
theorem oP{t t2:TypeId}{es es2 es':List AV}{n1 n2 n' sz:Nat}{e:Bool}(n:Nat)(h:Ob.ok P (.app t t2 es es2 es' n1 n2 n' sz e))(k:OL P os ob):OL P (.app es' n' sz e::(lZ n++os)) (.app t t2 es es2 es' n1 n2 n' sz e::ob):=⟨⟨h,k.ok⟩⟩
theorem oS{cs es:List AV}{l m:Nat}(n:Nat)(h:Ob.ok P (.cells cs es l m))(k:OL P os ob):OL P (.sl es m::(lZ n++os)) (.cells cs es l m::ob):=⟨⟨h,k.ok⟩⟩
theorem oL{t:TypeId}{X:yM}{key:AV}{o:Bool}{a:AV}(n:Nat)(h:Ob.ok P (.lk t X key o a))(k:OL P os ob):OL P (.lk a::(lZ n++os)) (.lk t X key o a::ob):=⟨⟨h,k.ok⟩⟩
theorem oU{t:TypeId}{X Y:yM}{key v:AV}(n:Nat)(h:Ob.ok P (.mu t X key v Y))(k:OL P os ob):OL P (.mu Y::(lZ n++os)) (.mu t X key v Y::ob):=⟨⟨h,k.ok⟩⟩
theorem oM{x:Option (List AV×Nat)}{cs:List AV}{m:Nat}(n:Nat)(h:Ob.ok P (.mk x cs m))(k:OL P os ob):OL P (.mk cs m::(lZ n++os)) (.mk x cs m::ob):=⟨⟨h,k.ok⟩⟩
theorem oG{x:Option AV}{a:AV}(n:Nat)(h:Ob.ok P (.ld x a))(k:OL P os ob):OL P (.ld a::(lZ n++os)) (.ld x a::ob):=⟨⟨h,k.ok⟩⟩
theorem oW{cs:List AV}{off:Nat}{v:AV}{sz:Nat}{cs':List AV}(n:Nat)(h:Ob.ok P (.wt cs off v sz cs'))(k:OL P os ob):OL P (.wt cs'::(lZ n++os)) (.wt cs off v sz cs'::ob):=⟨⟨h,k.ok⟩⟩
theorem oN{t:TypeId}{X:yM}{a:AV}(n:Nat)(h:Ob.ok P (.ln t X a))(k:OL P os ob):OL P (.lk a::(lZ n++os)) (.ln t X a::ob):=⟨⟨h,k.ok⟩⟩
theorem oI{x:Option (List AV)}{cs:List AV}(n:Nat)(h:Ob.ok P (.inp x cs))(k:OL P os ob):OL P (.inp cs::(lZ n++os)) (.inp x cs::ob):=⟨⟨h,k.ok⟩⟩
theorem oQ{t t2:TypeId}{m:Nat}(n:Nat)(h:Ob.ok P (.same t t2 m))(k:OL P os ob):OL P (.same::(lZ n++os)) (.same t t2 m::ob):=⟨⟨h,k.ok⟩⟩
theorem oR{t:TypeId}{l off z:Nat}(n:Nat)(h:Ob.ok P (.clr t l off z))(k:OL P os ob):OL P (.clr::(lZ n++os)) (.clr t l off z::ob):=⟨⟨h,k.ok⟩⟩
theorem oD{es:List AV}(h:AV.DataL es)(k:OL P os ob):OL P os (.data es::ob):=⟨⟨h,k.ok⟩⟩
end
theorem W4{α:Type}{b:Bool}{x y:Option α}{r:α}(h:(if b=true then x else y)=some r):(b=true/\x=some r)\/(b=false/\y=some r):=by
 cases b;·exact .inr ⟨rfl,by simpa using h⟩
 ·exact .inl ⟨rfl,by simpa using h⟩
theorem spT{α:Type}{b:Bool}{x:Option α}{r:α}(h:(if b=true then x else none)=some r):b=true/\x=some r:=by
 rcases W4 h with h|⟨_,h⟩;·exact h
 ·cases h
theorem nn{α:Type}{r:α}{p:Prop}(h:(none:Option α)=some r):p:=nomatch h
theorem zVM{α:Type}{b:Bool}{x y:α}(h:b=true):(if b=true then x else y)=x:=if_pos h
theorem zSw{α:Type}{b:Bool}{x y:α}(h:b=false):(if b=true then x else y)=y:=by subst h;rfl
theorem sj{α:Type}{x y:α}(h:some x=some y):x=y:=Option.some.inj h
def sp(j:Nat->Value):Nat->Nat->List (Nat×AV)->List AV|0,_,_=>[]|n+1,i,l=>match l with|[]=>.val (j i)::sp j n (i+1) []|(m,a)::l'=>bif Nat.beq m i then a::sp j n (i+1) l' else .val (j i)::sp j n (i+1) l
section
variable{P:Program}{pr:FuncId->List AV->yW->Option LA}(hp:rV P pr)(hm:P.follows .mixedOrders=true){na:Nb}{fn:Func}{f:FuncId}
include hp hm
theorem OL.toHead{H0 H1:List yM}{args:List AV}{res:AV}{nst:Nat}(q:P.funcs[f]?=some fn/\fn.body.isNone=false)(m:Nat)(rs:List (Option Nat×Nat×Nat))(keep ks live:List Nat){os:List mS}{ob:List Ob}(k:OL P os ob){c:Code}{fs':List Fr}{E:(Nat->Value)->List AV}{S:yW}(hk:∀j,Dl P H0.length c (E j) S (vA P H0.length (oO P H0.length fn res H1 nst) fs'))(h:∀j,C9 P pr H0.length 3000 (.run (tI fn)) [] (args++List.replicate (fn.ntmps-args.length) (.val undef)) (aM H0) ((lZ m++os).reverseAux []) rs keep ks live j=some (c,fs',E j,S,ob.reverseAux [])):uG P f H0 args res H1 nst:=uG.toHead hp hm q.1 q.2 3000 _ rs keep ks live h (yR.rev _ _ k.ok trivial) hk
theorem OL.toFin{H0 H1:List yM}{args:List AV}{res:AV}{nst:Nat}(q:P.funcs[f]?=some fn/\fn.body.isNone=false)(m:Nat)(rs:List (Option Nat×Nat×Nat))(keep ks:List Nat)(own:Bool){os:List mS}{ob:List Ob}(k:OL P os ob)(h:U4 P pr H0.length fn 3000 (.run (tI fn)) [] (args++List.replicate (fn.ntmps-args.length) (.val undef)) (aM H0) ((lZ m++os).reverseAux []) rs keep ks own=some (res,H1,ob.reverseAux []))(hn:nst<=ks.length):uG P f H0 args res H1 nst:=uG.toFin hp hm q.1 q.2 3000 _ rs keep ks own h (yR.rev _ _ k.ok trivial) hn
theorem OL.lHead{Q:AX->List AV->yW->Prop}{c c':Code}{fs fs':List Fr}{env:List AV}{s S:yW}(m:Nat)(rs:List (Option Nat×Nat×Nat))(keep ks live:List Nat){os:List mS}{ob:List Ob}(k:OL P os ob){E:(Nat->Value)->List AV}(hk:∀j,Dl P na c' (E j) S (vA P na Q fs'))(h:∀j,C9 P pr na.n 3000 (.run c) (.loop c::fs) env s ((lZ m++os).reverseAux []) rs keep ks live j=some (c',fs',E j,S,ob.reverseAux [])):Dl P na c env s (vA P na Q fs):=Dl.toHead hp hm 3000 _ rs keep ks live h (yR.rev _ _ k.ok trivial) hk
theorem OL.lFin{c:Code}{fs:List Fr}{env:List AV}{s:yW}{res:AV}{H1:List yM}{nst:Nat}(m:Nat)(rs:List (Option Nat×Nat×Nat))(keep ks:List Nat)(own:Bool){os:List mS}{ob:List Ob}(k:OL P os ob)(h:U4 P pr na.n fn 3000 (.run c) (.loop c::fs) env s ((lZ m++os).reverseAux []) rs keep ks own=some (res,H1,ob.reverseAux []))(hn:nst<=ks.length):Dl P na c env s (vA P na (oO P na fn res H1 nst) fs):=Dl.toFin hp hm 3000 _ rs keep ks own h (yR.rev _ _ k.ok trivial) hn
end
section
variable{P:Program}{os:List mS}{ob:List Ob}
theorem gP(n:Nat)(k:OL P os ob):OL P (.cl::(lZ n++os)) ob:=⟨k.ok⟩
theorem oCk{f:FuncId}{H0:List yM}{args:List AV}{res:AV}{H1:List yM}{nst:Nat}(n:Nat)(ι:List Nat)(kp:List (Nat×Nat))(h:CT P f H0 args res H1 nst)(hk:zHI H0 H1 kp)(k:OL P os ob):OL P (.callk kp ι H1 nst res::(lZ n++os)) (.call f H0 args res H1 nst::.kp H0 H1 kp::ob):=⟨⟨h,hk,k.ok⟩⟩
end
abbrev vP:Nat->Prop:=λ_=>True
mutual def AV.ptB(keep:List Nat):AV->Bool|.val _=>true|.agg cs=>AV.ptBL keep cs|.tup cs=>AV.ptBL keep cs|.sl _ _ _=>true|.ip _=>true|.mp i _=>qF keep i|.ms i _ _ _ _=>qF keep i|.obj i=>qF keep i|.clo _ fs cs=>AV.ptBL keep fs&&AV.ptBL keep cs def AV.ptBL(keep:List Nat):List AV->Bool|[]=>true|a::l=>AV.ptB keep a&&AV.ptBL keep l end
mutual theorem AV.pt_fine{keep:List Nat}:∀a:AV,a.ptB keep=true->a.fine vP->a.fine (λi=>i∈keep)|.val _,_,_=>trivial|.agg cs,h,k=>AV.pt_fineL cs h k|.tup cs,h,k=>AV.pt_fineL cs h k|.sl _ _ _,_,k=>k|.ip _,_,k=>k|.mp _ _,h,_=>vV.1 h|.ms _ _ _ _ _,h,_=>vV.1 h|.obj _,h,_=>vV.1 h|.clo _ fs cs,h,k=>by simp only[AV.ptB,Bool.and_eq_true]at h;exact⟨AV.pt_fineL fs h.1 k.1,AV.pt_fineL cs h.2 k.2⟩theorem AV.pt_fineL{keep:List Nat}:∀l:List AV,AV.ptBL keep l=true->AV.fineL vP l->AV.fineL (λi=>i∈keep) l|[],_,_=>trivial|a::l,h,k=>by simp only[AV.ptBL,Bool.and_eq_true]at h;exact⟨AV.pt_fine a h.1 k.1,AV.pt_fineL l h.2 k.2⟩end
mutual theorem AV.fine_any{p:Nat->Prop}:∀a:AV,a.fine p->a.fine vP|.val _,_=>trivial|.agg cs,h=>AV.fine_anyL cs h|.tup cs,h=>AV.fine_anyL cs h|.sl _ _ _,h=>h|.ip _,h=>h|.mp _ _,_=>trivial|.ms _ _ _ _ _,_=>trivial|.obj _,_=>trivial|.clo _ fs cs,h=>⟨AV.fine_anyL fs h.1,AV.fine_anyL cs h.2⟩theorem AV.fine_anyL{p:Nat->Prop}:∀l:List AV,AV.fineL p l->AV.fineL vP l|[],_=>trivial|a::l,h=>⟨AV.fine_any a h.1,AV.fine_anyL l h.2⟩end
mutual theorem AV.unren_any{r:Nat->Nat}{f:Nat->Option Nat}:∀a:AV,(a.ren r f).fine vP->a.fine vP|.val _,_=>trivial|.agg cs,h=>AV.unren_anyL cs h|.tup cs,h=>AV.unren_anyL cs h|.sl _ _ _,h=>h|.ip _,h=>h|.mp _ _,_=>trivial|.ms _ _ _ _ _,_=>trivial|.obj _,_=>trivial|.clo _ fs cs,h=>⟨AV.unren_anyL fs h.1,AV.unren_anyL cs h.2⟩theorem AV.unren_anyL{r:Nat->Nat}{f:Nat->Option Nat}:∀l:List AV,AV.fineL vP (AV.renL r f l)->AV.fineL vP l|[],_=>trivial|a::l,h=>⟨AV.unren_any a h.1,AV.unren_anyL l h.2⟩end
mutual theorem AV.unfrz_any:∀a:AV,a.frz.fine vP->a.fine vP|.val _,_=>trivial|.agg cs,h=>AV.unfrz_anyL cs h|.tup cs,h=>AV.unfrz_anyL cs h|.sl _ _ _,h=>h|.ip _,h=>h|.mp _ _,_=>trivial|.ms _ _ _ _ _,_=>trivial|.obj _,_=>trivial|.clo _ fs cs,h=>⟨AV.unfrz_anyL fs h.1,AV.unfrz_anyL cs h.2⟩theorem AV.unfrz_anyL:∀l:List AV,AV.fineL vP (AV.frzL l)->AV.fineL vP l|[],_=>trivial|a::l,h=>⟨AV.unfrz_any a h.1,AV.unfrz_anyL l h.2⟩end
theorem t8(a:AV)(h:(frz1 a).fine vP):a.fine vP:=by
 unfold frz1 at h;split at h;·exact h
 ·exact AV.unfrz_any _ h
theorem R9:∀l:List AV,AV.fineL vP (l.map frz1)->AV.fineL vP l|[],_=>trivial|a::l,h=>⟨t8 a h.1,R9 l h.2⟩
theorem aW(a:AV)(h:(frzT a).fine vP):a.fine vP:=by
 unfold frzT at h;split at h;·exact R9 _ h
 ·exact t8 _ h
theorem zHV{keep:List Nat}(a:AV)(h:(frzN keep a).fine vP):a.fine vP:=by
 unfold frzN at h;split at h;·rename_i es n o;cases hb:o.nlB with|false=>rw[hb]at h;exact aW _ h|true=>
  rw[hb]at h;simp only[cond_true]at h;split at h;·trivial
  ·exact aW _ h
 ·exact aW _ h
theorem zHW(a:AV)(h:a.frzK.fine vP):a.fine vP:=by
 unfold AV.frzK at h;split at h;·rename_i es n o;cases hb:o.nlB with|false=>rw[hb]at h;exact h|true=>
  rw[hb]at h;simp only[cond_true]at h;split at h;·trivial
  ·exact h
 ·exact AV.unfrz_any _ h
theorem S0:∀l:List AV,AV.fineL vP (l.map AV.frzK)->AV.fineL vP l|[],_=>trivial|a::l,h=>⟨zHW a h.1,S0 l h.2⟩
theorem yM.fine_any{p:Nat->Prop}{X:yM}(h:X.fine p):X.fine vP:=by cases X with|cells cs=>exact AV.fine_anyL cs h|obj o=>trivial|row cs=>exact h|dead=>trivial
theorem yM.unfz_any{k:Bool}{X:yM}(h:(X.fzB k).fine vP):X.fine vP:=by cases X with
 |cells cs=>cases k with|true=>exact S0 cs h|false=>exact AV.unfrz_anyL cs h
 |obj o=>trivial|row cs=>exact h|dead=>trivial
theorem yM.unren_any{r:Nat->Nat}{f:Nat->Option Nat}{X:yM}(h:(X.ren r f).fine vP):X.fine vP:=by cases X with|cells cs=>exact AV.unren_anyL cs h|obj o=>trivial|row cs=>exact h|dead=>trivial
def yM.ptB(keep:List Nat):yM->Bool|.cells cs=>AV.ptBL keep cs|_=>true
theorem yM.pt_fine{keep:List Nat}{X:yM}(h:X.ptB keep=true)(k:X.fine vP):X.fine (λi=>i∈keep):=by cases X with|cells cs=>exact AV.pt_fineL cs h k|obj o=>trivial|row cs=>exact k|dead=>trivial
def S1(keep:List Nat)(s:yW):List Nat->Bool|[]=>true|i::l=>((look s.H i).getD (.cells [])).ptB keep&&S1 keep s l
theorem s4{keep:List Nat}{s:yW}:∀l:List Nat,S1 keep s l=true->(∀i∈l,((look s.H i).getD (.cells [])).fine vP)->nM keep s l|[],_,_=>trivial|i::l,h,k=>by simp only[S1,Bool.and_eq_true]at h;exact⟨yM.pt_fine h.1 (k i (List.mem_cons_self ..)),s4 l h.2 λj hj=>k j (List.mem_cons_of_mem _ hj)⟩
def zOD(keep live:List Nat):List AV->Nat->Bool|[],_=>true|a::l,t=>(bif qF live t then a.ptB keep else true)&&zOD keep live l (t+1)
theorem zJN{keep ks live:List Nat}{j:Nat->Value}:∀(env:List AV)(t:Nat),zOD keep live env t=true->AV.fineL vP (reEnv keep ks live j env t)->iE keep live env t|[],_,_,_=>trivial|a::l,t,h,k=>by simp only[zOD,Bool.and_eq_true]at h;simp only[reEnv,AV.fineL]at k;refine⟨?_,zJN l (t+1) h.2 k.2⟩;cases hm:qF live t with|false=>trivial|true=>have h1:=h.1;have k1:=k.1;rw[hm]at h1 k1;exact AV.pt_fine a h1 (AV.unren_any a k1)
theorem s5{H:List (Nat×yM)}{keep ks:List Nat}:∀(l:List Nat)(j:Nat),(∀p∈nX H keep ks l j,p.2.fine vP)->∀i∈l,((look H i).getD (.cells [])).fine vP
 |[],_,_,_,h=>nomatch h|i::l,j,h,k,hk=>by
  rcases List.mem_cons.1 hk with rfl|hk;·exact yM.unren_any (h _ (List.mem_cons_self ..))
  ·exact s5 l (j+1) (λp hp=>h p (List.mem_cons_of_mem _ hp)) k hk
theorem s6{H:List (Nat×yM)}{keep ks:List Nat}:∀(l:List Nat)(j m:Nat),m=l.length->(∀t,t<m->(look (nX H keep ks keep 0) (j+t))=(l[t]?).map λi=>((look H i).getD (.cells [])).ren (uV keep) (place ks))->(∀X∈sK (nX H keep ks keep 0) j m,X.fine vP)->∀i∈l,((look H i).getD (.cells [])).fine vP
 |[],_,_,_,_,_,_,h=>nomatch h|i::l,j,m,hm,hl,h,k,hk=>by
  subst hm;simp only[List.length_cons,sK]at h;rcases List.mem_cons.1 hk with rfl|hk
  ·have h0:=h _ (List.mem_cons_self ..);have:=hl 0 (by simp);simp only[Nat.add_zero,List.getElem?_cons_zero,Option.map_some]at this;rw[this]at h0;exact yM.unren_any h0
  ·refine s6 l (j+1) l.length rfl (λt ht=>?_) (λX hX=>h X (List.mem_cons_of_mem _ hX)) k hk;have:=hl (t+1) (by simpa using ht);rw[show j+1+t=j+(t+1)by omega,this];simp
def bY(P:Program)(pr:FuncId->List AV->yW->Option LA)(na:Nat)(fn:Func)(n:Nat)(m:Md)(fs:List Fr)(env:List AV)(s:yW)(os:List mS)(rs:List (Option Nat×Nat×Nat))(keep ks:List Nat)(own:Bool):Option (AV×List yM×List Ob):=match pK P pr n m fs env s os with
 |some (.fin x,env1,s1,[],ob)=>match x with|.exit _=>none|_=>match restamps rs env1 s1 with|none=>none|some (env',s')=>match Z2 P (look s'.H) env' fn.results.toList with
  |some r=>bif reB na keep ks s'&&(S1 keep s' keep&&r.ptB keep)then some (bif own then frzN keep (r.ren (uV keep) (place ks))else(r.ren (uV keep) (place ks)).frz,(sK (jA keep ks s').H 0 keep.length).map (yM.fzB own),ob)else none|none=>none
 |_=>none
theorem zEU{P:Program}{pr:FuncId->List AV->yW->Option LA}(hp:rV P pr)(hm:P.follows .mixedOrders=true){na:Nb}{fn:Func}{n:Nat}{m:Md}{fs:List Fr}{env:List AV}{s:yW}{os:List mS}{rs:List (Option Nat×Nat×Nat)}{keep ks:List Nat}{own:Bool}{res:AV}{H1:List yM}{nst:Nat}{ob:List Ob}(h:bY P pr na.n fn n m fs env s os rs keep ks own=some (res,H1,ob))(hob:yR P ob)(hn:nst<=ks.length)(fr:res.fine vP)(fb:∀X∈H1,X.fine vP):zBe P na (oO P na fn res H1 nst) fs env s m:=by
 unfold bY at h;split at h
 ·rename_i x env1 s1 ob' hr;have key:(x=.normal\/x=.ret)/\∃env' s',restamps rs env1 s1=some (env',s')/\∃r,Z2 P (look s'.H) env' fn.results.toList=some r/\(bif reB na.n keep ks s'&&(S1 keep s' keep&&r.ptB keep)then some (bif own then frzN keep (r.ren (uV keep) (place ks))else(r.ren (uV keep) (place ks)).frz,(sK (jA keep ks s').H 0 keep.length).map (yM.fzB own),ob')else none)=some (res,H1,ob):=by cases x with
   |exit i=>cases h|normal=>
    simp only at h;split at h;·cases h
    rename_i env' s' hrs;split at h;·rename_i r hr;exact⟨.inl rfl,env',s',hrs,r,hr,h⟩
    ·cases h|ret=>
    simp only at h;split at h;·cases h
    rename_i env' s' hrs;split at h;·rename_i r hr;exact⟨.inr rfl,env',s',hrs,r,hr,h⟩
    ·cases h
  obtain⟨hx,env',s',hrs,r,hres,h⟩:=key;cases hb:reB na.n keep ks s'&&(S1 keep s' keep&&r.ptB keep)with|false=>rw[hb]at h;cases h|true=>
   rw[hb]at h;simp only[cond_true,Option.some.injEq,Prod.mk.injEq]at h;obtain⟨e1,rfl,rfl⟩:=h;simp only[Bool.and_eq_true]at hb;obtain⟨b1,b2,b3⟩:=hb;have hfr:r.fine vP:=by subst e1;cases own with|true=>exact AV.unren_any _ (zHV _ fr)|false=>exact AV.unren_any _ (AV.unfrz_any _ fr)
   have hfb:∀i∈keep,((look s'.H i).getD (.cells [])).fine vP:=by refine s6 (keep:=keep) (ks:=ks) keep 0 keep.length rfl (λt ht=>?_) λX hX=>yM.unfz_any (fb _ (List.mem_map_of_mem hX));rw[kD];simp
   refine nD hp hm _ _ _ _ _ _ _ _ _ _ _ hr hob ⟨hx,rs,env',s',hrs,r,keep,ks,hres,b1,s4 _ b2 hfb,AV.pt_fine _ b3 hfr,λG w u hu=>?_,⟨own,rfl⟩,hn⟩;subst e1;cases own with|true=>exact V.frzN hu|false=>exact V.frz _ _ hu
 ·cases h
def aX(P:Program)(pr:FuncId->List AV->yW->Option LA)(na n:Nat)(m:Md)(fs:List Fr)(env:List AV)(s:yW)(os:List mS)(rs:List (Option Nat×Nat×Nat))(keep ks live:List Nat)(j:Nat->Value):Option (Code×List Fr×List AV×yW×List Ob):=match pK P pr n m fs env s os with
 |some (.head c fs',env1,s1,[],ob)=>match restamps rs env1 s1 with
  |none=>none|some (env',s')=>bif reB na keep ks s'&&(S1 keep s' keep&&zOD keep live env' 0)then some (c,fs',reEnv keep ks live j env' 0,jA keep ks s',ob)else none
 |_=>none
theorem zBF{P:Program}{pr:FuncId->List AV->yW->Option LA}(hp:rV P pr)(hm:P.follows .mixedOrders=true){na:Nb}{Q:AX->List AV->yW->Prop}{n:Nat}{m:Md}{fs fs':List Fr}{env:List AV}{E:(Nat->Value)->List AV}{s S:yW}{os:List mS}{rs:List (Option Nat×Nat×Nat)}{keep ks live:List Nat}{c:Code}{ob:List Ob}(h:∀j,aX P pr na.n n m fs env s os rs keep ks live j=some (c,fs',E j,S,ob))(hob:yR P ob)(fe:∀j,AV.fineL vP (E j))(fb:∀p∈S.H,p.2.fine vP)(hk:∀j,Dl P na c (E j) S (vA P na Q fs')):zBe P na Q fs env s m:=by
 have h0:=h λ_=>undef;unfold aX at h0;split at h0
 ·rename_i c' fs1 env1 s1 ob' hr;split at h0;·cases h0
  rename_i env' s' hrs;cases hb:reB na.n keep ks s'&&(S1 keep s' keep&&zOD keep live env' 0)with|false=>rw[hb]at h0;cases h0|true=>rw[hb]at h0;simp only[cond_true,Option.some.injEq,Prod.mk.injEq]at h0;obtain⟨rfl,rfl,e0,rfl,rfl⟩:=h0;have hb':=hb;simp only[Bool.and_eq_true]at hb';obtain⟨b1,b2,b3⟩:=hb';refine nD hp hm _ _ _ _ _ _ _ _ _ _ _ hr hob ?_;refine Dl.restamps hrs ?_;refine Dl.re keep ks live b1 (s4 _ b2 (s5 keep 0 fb)) (zJN _ _ b3 (by rw[e0];exact fe _)) λj=>?_;have hj:=h j;unfold aX at hj;rw[hr]at hj;simp only[hrs,hb,cond_true,Option.some.injEq,Prod.mk.injEq]at hj;rw[hj.2.2.1];exact hk j
 ·cases h0
theorem E5(j:Nat->Value):∀(n i:Nat)(l:List (Nat×AV)),(∀p∈l,p.2.fine vP)->AV.fineL vP (sp j n i l)|0,_,_,_=>trivial|n+1,i,[],_=>⟨trivial,E5 j n (i+1) [] (λ_ h=>nomatch h)⟩|n+1,i,(m,a)::l,h=>by rw[sp];cases Nat.beq m i with|true=>exact⟨h _ (List.mem_cons_self ..),E5 j n (i+1) l λp hp=>h p (List.mem_cons_of_mem _ hp)⟩|false=>exact⟨trivial,E5 j n (i+1) _ h⟩
class Cd{α:Type}(c:α->List AV):Prop where data:∀x,AV.DataL (c x)
theorem Cd.d{α:Type}{c:α->List AV}[Cd c](l:List α):AV.DataL (zC c l):=vK Cd.data l
instance:Cd zA:=⟨uX.data⟩
instance:Cd R8:=⟨λt=>by rw[<-wC];exact uX.data t⟩
instance:Cd zY:=⟨lA.data⟩
instance:Cd K4:=⟨zHQ.data⟩
instance:Cd xE:=⟨zCT.data⟩
instance:Cd aR:=⟨zCU.data⟩
instance:Cd pN:=⟨zCV.data⟩
def Rn(P:Program){ρ:Type}(T:ρ->Prop)(os:List mS)(ob:List Ob)(o:Option ρ):Prop:=∀r,o=some r->OL P os ob->T r
theorem sD{α β:Type}{p:α⊕β->Prop}(h:∀a,p (.inl a))(k:∀b,p (.inr b)):∀x,p x|.inl a=>h a|.inr b=>k b
def Cs(P:Program){ρ:Type}(o:Option ρ)(f:FuncId)(H0:List yM)(args:List AV)(res:ρ->AV)(H1:ρ->List yM)(nst:Nat):Prop:=∀r,o=some r->CT P f H0 args (res r) (H1 r) nst
def Ls(P:Program){ρ:Type}(o:Option ρ)(na:Nb)(fn:Func)(c:Code)(E:(Nat->Value)->List AV)(S:yW)(res:ρ->AV)(H1:ρ->List yM)(nst:Nat)(fs:List Fr):Prop:=∀r,o=some r->∀j,Dl P na c (E j) S (vA P na (oO P na fn (res r) (H1 r) nst) fs)
theorem cN{P:Program}{ρ:Type}{f:FuncId}{H0:List yM}{args:List AV}{res:ρ->AV}{H1:ρ->List yM}{nst:Nat}:Cs P none f H0 args res H1 nst:=λ_ h=>nomatch h
theorem lN{P:Program}{ρ:Type}{na:Nb}{fn:Func}{c:Code}{E:(Nat->Value)->List AV}{S:yW}{res:ρ->AV}{H1:ρ->List yM}{nst:Nat}{fs:List Fr}:Ls P none na fn c E S res H1 nst fs:=λ_ h=>nomatch h
section
variable{P:Program}{ρ α:Type}{T:ρ->Prop}{os:List mS}{ob:List Ob}
theorem rN:Rn P T os ob none:=λ_ h=>nomatch h
theorem rH{o:Option α}{f:α->Option ρ}(k:∀a,o=some a->Rn P T os ob (f a)):Rn P T os ob (o>>=f):=λr h q=>by obtain⟨a,h1,h2⟩:=wP h;exact k a h1 r h2 q
theorem rI{c:Bool}{x y:Option ρ}(k1:c=true->Rn P T os ob x)(k2:c=false->Rn P T os ob y):Rn P T os ob (if c=true then x else y):=λr h q=>by
 rcases W4 h with⟨h1,h⟩|⟨h1,h⟩;·exact k1 h1 r h q
 ·exact k2 h1 r h q
theorem rS{os':List mS}{ob':List Ob}{o:Option ρ}(w:OL P os ob->OL P os' ob')(k:Rn P T os' ob' o):Rn P T os ob o:=λr h q=>k r h (w q)
theorem rW{o:Option α}{f:α->Option ρ}{os':α->List mS}{ob':α->List Ob}(w:∀{a},o=some a->OL P os ob->OL P (os' a) (ob' a))(k:∀a,Rn P T (os' a) (ob' a) (f a)):Rn P T os ob (o>>=f):=rH λa h=>rS (w h) (k a)
theorem rA{o:Option α}{f:α->Option ρ}{X:Option AV}{c:α->AV}(n:Nat)(w:∀{a},o=some a->X=some (c a))(k:∀a,Rn P T (.av (c a)::(lZ n++os)) (.av X (c a)::ob) (f a)):Rn P T os ob (o>>=f):=rH λa h=>rS (oA n (w h)) (k a)
theorem rC{o:Option α}{g:α->Option ρ}{f:FuncId}{H0:List yM}{args:List AV}{res:α->AV}{H1:α->List yM}{nst:Nat}(n:Nat)(ι:List Nat)(w:Cs P o f H0 args res H1 nst)(k:∀a,Rn P T (.call ι (H1 a) nst (res a) none::(lZ n++os)) (.call f H0 args (res a) (H1 a) nst::ob) (g a)):Rn P T os ob (o>>=g):=rH λa h=>rS (oC n ι (w a h)) (k a)
theorem rB{c:Bool}{x y:Option ρ}(n:Nat)(k1:Rn P T (.bit true::(lZ n++os)) (.bit c true::ob) x)(k2:Rn P T (.bit false::(lZ n++os)) (.bit c false::ob) y):Rn P T os ob (if c=true then x else y):=rI (λh=>rS (oB n h) k1) λh=>rS (oB n h) k2
theorem rK{o:Option α}{c:α->Bool}{x y:α->Option ρ}{f:FuncId}{H0:List yM}{args:List AV}{res:α->AV}{H1:α->List yM}{nst:Nat}(n:Nat)(ι:List Nat)(w:Cs P o f H0 args res H1 nst)(k1:∀a,Rn P T (.call ι (H1 a) nst (res a) (some true)::(lZ n++os)) (.call f H0 args (res a) (H1 a) nst::.bit (c a) true::ob) (x a))(k2:∀a,Rn P T (.call ι (H1 a) nst (res a) (some false)::(lZ n++os)) (.call f H0 args (res a) (H1 a) nst::.bit (c a) false::ob) (y a)):Rn P T os ob (o>>=λa=>if c a=true then x a else y a):=rH λa h=>rI (λh1=>rS (oK n ι h1 (w a h)) (k1 a)) λh1=>rS (oK n ι h1 (w a h)) (k2 a)
theorem rZ(b:Prop){o:Option ρ}(k1:b->Rn P T os ob o)(k2:¬b->Rn P T os ob o):Rn P T os ob o:=(Classical.em b).elim k1 k2
end
def fT(P:Program){ρ:Type}(f:FuncId)(fn:Func)(H0:List yM)(args:List AV)(res:ρ->AV)(H1:ρ->List yM)(nst:Nat)(r:ρ):Prop:=P.funcs[f]?=some fn->fn.body.isNone=false->((res r).fine vP/\∀X∈H1 r,X.fine vP)->uG P f H0 args (res r) (H1 r) nst
def lT(P:Program){ρ:Type}(na:Nb)(fn:Func)(res:ρ->AV)(H1:ρ->List yM)(nst:Nat)(c:Code)(fs:List Fr)(env:List AV)(s:yW)(r:ρ):Prop:=((res r).fine vP/\∀X∈H1 r,X.fine vP)->Dl P na c env s (vA P na (oO P na fn (res r) (H1 r) nst) fs)
section
variable{P:Program}{ρ:Type}{res:ρ->AV}{H1:ρ->List yM}{nst:Nat}{fn:Func}{o:Option ρ}
def zYP(H0:List yM)(args:List AV)(res:ρ->AV)(H1:ρ->List yM):Prop:=AV.argL (λi=>i<H0.length) args/\(∀X∈H0,X.arg (λi=>i<H0.length))/\∀r,(res r).fine (λi=>i<(H1 r).length)/\∀X∈H1 r,X.fine (λi=>i<(H1 r).length)
theorem fW{f:FuncId}{H0:List yM}{args:List AV}(q1:P.funcs[f]?=some fn)(q2:fn.body.isNone=false)(a:zYP H0 args res H1)(k:Rn P (fT P f fn H0 args res H1 nst) [] [] o):Cs P o f H0 args res H1 nst:=λr h=>⟨k r h OL.nil q1 q2 ⟨AV.fine_any _ (a.2.2 r).1,λX hX=>yM.fine_any ((a.2.2 r).2 X hX)⟩,a.1,a.2.1,(a.2.2 r).1,(a.2.2 r).2⟩
theorem lW{na:Nb}{c:Code}{fs:List Fr}{E:(Nat->Value)->List AV}{s:yW}(a:∀r,(res r).fine vP/\∀X∈H1 r,X.fine vP)(k:∀j,Rn P (lT P na fn res H1 nst c fs (E j) s) [] [] o):Ls P o na fn c E s res H1 nst fs:=λr h j=>k j r h OL.nil (a r)
variable{pr:FuncId->List AV->yW->Option LA}(hp:rV P pr)(hm:P.follows .mixedOrders=true){os:List mS}{ob:List Ob}{x:ρ}
include hp hm
theorem zVN{f:FuncId}{H0:List yM}{args:List AV}(m:Nat)(rs:List (Option Nat×Nat×Nat))(keep ks:List Nat)(own:Bool)(h:bY P pr H0.length fn 3000 (.run (tI fn)) [] (args++List.replicate (fn.ntmps-args.length) (.val undef)) (aM H0) ((lZ m++os).reverseAux []) rs keep ks own=some (res x,H1 x,ob.reverseAux []))(hn:nst<=ks.length):Rn P (fT P f fn H0 args res H1 nst) os ob (some x):=by intro r e q q1 q2 a;cases e;exact uG.body q1 q2 (zEU (na:=(H0.length:Nb)) (m:=.run (tI fn)) (fs:=[]) hp hm h (yR.rev _ _ q.ok trivial) hn a.1 a.2)
theorem zYQ{f:FuncId}{H0:List yM}{args:List AV}(m:Nat)(rs:List (Option Nat×Nat×Nat))(keep ks live:List Nat){c:Code}{fs':List Fr}{E:(Nat->Value)->List AV}{S:yW}(hk:Ls P o H0.length fn c E S res H1 nst fs')(h:∀j,aX P pr H0.length 3000 (.run (tI fn)) [] (args++List.replicate (fn.ntmps-args.length) (.val undef)) (aM H0) ((lZ m++os).reverseAux []) rs keep ks live j=some (c,fs',E j,S,ob.reverseAux []))(fe:∀j,AV.fineL vP (E j))(fb:∀p∈S.H,p.2.fine vP):Rn P (fT P f fn H0 args res H1 nst) os ob o:=by intro r e q q1 q2 _;exact uG.body q1 q2 (zBF (na:=(H0.length:Nb)) (m:=.run (tI fn)) (fs:=[]) hp hm h (yR.rev _ _ q.ok trivial) fe fb (hk r e))
variable{na:Nb}{c:Code}{fs:List Fr}{env:List AV}{s:yW}
theorem lFin(m:Nat)(rs:List (Option Nat×Nat×Nat))(keep ks:List Nat)(own:Bool)(h:bY P pr na.n fn 3000 (.run c) (.loop c::fs) env s ((lZ m++os).reverseAux []) rs keep ks own=some (res x,H1 x,ob.reverseAux []))(hn:nst<=ks.length):Rn P (lT P na fn res H1 nst c fs env s) os ob (some x):=by intro r e q a;cases e;exact Dl.step (zEU hp hm (m:=.run c) (fs:=.loop c::fs) h (yR.rev _ _ q.ok trivial) hn a.1 a.2)
theorem lHead(m:Nat)(rs:List (Option Nat×Nat×Nat))(keep ks live:List Nat){c':Code}{fs':List Fr}{E:(Nat->Value)->List AV}{S:yW}(hk:Ls P o na fn c' E S res H1 nst fs')(h:∀j,aX P pr na.n 3000 (.run c) (.loop c::fs) env s ((lZ m++os).reverseAux []) rs keep ks live j=some (c',fs',E j,S,ob.reverseAux []))(fe:∀j,AV.fineL vP (E j))(fb:∀p∈S.H,p.2.fine vP):Rn P (lT P na fn res H1 nst c fs env s) os ob o:=by intro r e q _;exact Dl.step (zBF hp hm (m:=.run c) (fs:=.loop c::fs) h (yR.rev _ _ q.ok trivial) fe fb (hk r e))
end
end Go.Ab
set_option linter.unusedSimpArgs false
namespace Go.Ab
open Go Go.RowKit
def qS{α:Type}(c:α->List AV)(l:List α):List AV:=[.sl (zC c l) l.length .no]
theorem zUV{α:Type}{c:α->List AV}{n:Nat}(h:vB c n):vB (qS c) 1:=⟨λ_=>rfl,λl=>⟨⟨trivial,vK h.data l⟩,trivial⟩,λ_=>rfl⟩
instance{α:Type}{c:α->List AV}[h:Cd c]:Cd (qS c):=⟨λx=>⟨⟨trivial,vK h.data x⟩,trivial⟩⟩
def boC(b:Bool):List AV:=[ab b]
theorem zHX:vB boC 1:=⟨λ_=>rfl,λ_=>⟨trivial,trivial⟩,λ_=>rfl⟩
instance:Cd boC:=⟨zHX.data⟩
theorem dB(l:List Bool):AV.DataL (zC boC l):=vK zHX.data l
theorem xR{P:Program}{α:Type}{C L:α->List AV}(he:∀t,C t=L t)(l:List α):Ob.ok P (.cells (zC L l) (zC C l) l.length l.length):=⟨by rw[show L=C from funext λt=>(he t).symm],rfl⟩
inductive zB where|mk(kind_:Int)(n_:Int)(at_:Int)(sub_:List zB)(t_:Tm)
def zB.kind_:zB->Int|.mk x _ _ _ _=>x
def zB.n_:zB->Int|.mk _ x _ _ _=>x
def zB.at_:zB->Int|.mk _ _ x _ _=>x
def zB.sub_:zB->List zB|.mk _ _ _ x _=>x
def zB.t_:zB->Tm|.mk _ _ _ _ x=>x
instance:Inhabited zB:=⟨.mk default default default default default⟩
mutual def zK:zB->List AV|.mk kind_ n_ at_ sub_ t_=>[ai kind_,ai n_,ai at_,.sl (qA sub_) sub_.length .no,ai t_.k,ai t_.n,zP zA t_.sub .no]def qA:List zB->List AV|[]=>[]|t::l=>zK t++qA l end
theorem oV:∀l:List zB,qA l=zC zK l|[]=>rfl|t::l=>by simp only[qA,oV l,zC,List.flatMap_cons]
def kG(x:zB):List AV:=[ai x.kind_,ai x.n_,ai x.at_,zP zK x.sub_ .no,ai x.t_.k,ai x.t_.n,zP zA x.t_.sub .no]
theorem sZ(x:zB):zK x=kG x:=by cases x;simp only[zK,kG,zB.kind_,zB.n_,zB.at_,zB.sub_,zB.t_,oV,List.cons_append,List.nil_append]
def wQ(x:zB):AV:=.agg (kG x)
mutual theorem gM:∀t:zB,AV.DataL (zK t)|.mk kind_ n_ at_ sub_ t_=>by rw[zK];exact⟨trivial,trivial,trivial,⟨trivial,jF sub_⟩,trivial,trivial,⟨trivial,dT _⟩,trivial⟩theorem jF:∀l:List zB,AV.DataL (qA l)|[]=>trivial|t::l=>by rw[qA];exact sL (gM t) (jF l)end
theorem tD:vB zK 7:=⟨λx=>by rw[sZ];rfl,gM,λx=>by rw[sZ];rfl⟩
instance:Cd zK:=⟨tD.data⟩
theorem zEV(l:List zB):AV.DataL (zC zK l):=vK tD.data l
structure uJ where
 types_:List Tm
 rows_:List (List zB)fuel_:Int
instance:Inhabited uJ:=⟨⟨default,default,default⟩⟩
def fN(x:uJ):List AV:=[zP zA x.types_ .no,zP (qS zK) x.rows_ .no,ai x.fuel_]
def E6(x:uJ):AV:=.agg (fN x)
structure zN where
 n_:Int
 t_:Tm
instance:Inhabited zN:=⟨⟨default,default⟩⟩
def zL(x:zN):List AV:=[ai x.n_,ai x.t_.k,ai x.t_.n,zP zA x.t_.sub .no]
theorem wN:vB zL 4:=⟨λ_=>rfl,λ_=>⟨trivial,trivial,trivial,⟨trivial,dT _⟩,trivial⟩,λ_=>rfl⟩
instance:Cd zL:=⟨wN.data⟩
theorem yD(l:List zN):AV.DataL (zC zL l):=vK wN.data l
structure zJ where
 n_:Int
 type_:Tm
instance:Inhabited zJ:=⟨⟨default,default⟩⟩
def zD(x:zJ):List AV:=[ai x.n_,ai x.type_.k,ai x.type_.n,zP zA x.type_.sub .no]
def zOF(x:zJ):AV:=.agg (zD x)
theorem wK:vB zD 4:=⟨λ_=>rfl,λ_=>⟨trivial,trivial,trivial,⟨trivial,dT _⟩,trivial⟩,λ_=>rfl⟩
instance:Cd zD:=⟨wK.data⟩
theorem yC(l:List zJ):AV.DataL (zC zD l):=vK wK.data l
mutual inductive yP where|mk(con_:Int)(yes_:Bool)(args_:List Int)(solved_:List zN)(t_:zQ)inductive zQ where|mk(kind_:Int)(row_:Int)(var_:Int)(vars_:List zJ)(binds_:List Tm)(args_:List Tm)(kids_:List yP)end
def yP.con_:yP->Int|.mk x _ _ _ _=>x
def yP.yes_:yP->Bool|.mk _ x _ _ _=>x
def yP.args_:yP->List Int|.mk _ _ x _ _=>x
def yP.solved_:yP->List zN|.mk _ _ _ x _=>x
def yP.t_:yP->zQ|.mk _ _ _ _ x=>x
def zQ.kind_:zQ->Int|.mk x _ _ _ _ _ _=>x
def zQ.row_:zQ->Int|.mk _ x _ _ _ _ _=>x
def zQ.var_:zQ->Int|.mk _ _ x _ _ _ _=>x
def zQ.vars_:zQ->List zJ|.mk _ _ _ x _ _ _=>x
def zQ.binds_:zQ->List Tm|.mk _ _ _ _ x _ _=>x
def zQ.args_:zQ->List Tm|.mk _ _ _ _ _ x _=>x
def zQ.kids_:zQ->List yP|.mk _ _ _ _ _ _ x=>x
instance:Inhabited zQ:=⟨.mk default default default default default default default⟩
instance:Inhabited yP:=⟨.mk default default default default default⟩
mutual def wA:yP->List AV|.mk con_ yes_ args_ solved_ t_=>[ai con_,ab yes_,zP zY args_ .no,zP zL solved_ .no]++vR t_ def vR:zQ->List AV|.mk kind_ row_ var_ vars_ binds_ args_ kids_=>[ai kind_,ai row_,ai var_,zP zD vars_ .no,zP zA binds_ .no,zP zA args_ .no,.sl (rO kids_) kids_.length .no]def rO:List yP->List AV|[]=>[]|t::l=>wA t++rO l end
theorem lD:∀l:List yP,rO l=zC wA l|[]=>rfl|t::l=>by simp only[rO,lD l,zC,List.flatMap_cons]
def rP(x:zQ):List AV:=[ai x.kind_,ai x.row_,ai x.var_,zP zD x.vars_ .no,zP zA x.binds_ .no,zP zA x.args_ .no,zP wA x.kids_ .no]
theorem uK(x:zQ):vR x=rP x:=by cases x;simp only[vR,rP,zQ.kind_,zQ.row_,zQ.var_,zQ.vars_,zQ.binds_,zQ.args_,zQ.kids_,lD,List.cons_append,List.nil_append]
def xT(x:zQ):AV:=.agg (rP x)
def L0(x:yP):List AV:=[ai x.con_,ab x.yes_,zP zY x.args_ .no,zP zL x.solved_ .no,ai x.t_.kind_,ai x.t_.row_,ai x.t_.var_,zP zD x.t_.vars_ .no,zP zA x.t_.binds_ .no,zP zA x.t_.args_ .no,zP wA x.t_.kids_ .no]
theorem fO(x:yP):wA x=L0 x:=by cases x;simp only[wA,L0,yP.con_,yP.yes_,yP.args_,yP.solved_,yP.t_,uK,rP,lD,List.cons_append,List.nil_append]
def zBG(x:yP):AV:=.agg (L0 x)
mutual theorem bZ:∀t:yP,AV.DataL (wA t)|.mk con_ yes_ args_ solved_ t_=>by rw[wA];exact sL (⟨trivial,trivial,⟨trivial,dI _⟩,⟨trivial,yD _⟩,trivial⟩) (fP t_)theorem fP:∀t:zQ,AV.DataL (vR t)|.mk kind_ row_ var_ vars_ binds_ args_ kids_=>by rw[vR];exact⟨trivial,trivial,trivial,⟨trivial,yC _⟩,⟨trivial,dT _⟩,⟨trivial,dT _⟩,⟨trivial,fR kids_⟩,trivial⟩theorem fR:∀l:List yP,AV.DataL (rO l)|[]=>trivial|t::l=>by rw[rO];exact sL (bZ t) (fR l)end
theorem nE:vB wA 11:=⟨λx=>by rw[fO];rfl,bZ,λx=>by rw[fO];rfl⟩
instance:Cd wA:=⟨nE.data⟩
theorem zBH(l:List yP):AV.DataL (zC wA l):=vK nE.data l
theorem fS:vB vR 7:=⟨λx=>by rw[uK];rfl,fP,λx=>by rw[uK];rfl⟩
instance:Cd vR:=⟨fS.data⟩
theorem zHY(l:List zQ):AV.DataL (zC vR l):=vK fS.data l
structure yS where
 e_:Int
 row_:Int
 at_:Int
instance:Inhabited yS:=⟨⟨default,default,default⟩⟩
def zEW(x:yS):List AV:=[ai x.e_,ai x.row_,ai x.at_]
def fU(x:yS):AV:=.agg (zEW x)
inductive xN where|mk(kind_:Int)(n_:Int)(at_:Int)(sub_:List xN)(t_:Tm)
def xN.kind_:xN->Int|.mk x _ _ _ _=>x
def xN.n_:xN->Int|.mk _ x _ _ _=>x
def xN.at_:xN->Int|.mk _ _ x _ _=>x
def xN.sub_:xN->List xN|.mk _ _ _ x _=>x
def xN.t_:xN->Tm|.mk _ _ _ _ x=>x
instance:Inhabited xN:=⟨.mk default default default default default⟩
mutual def vS:xN->List AV|.mk kind_ n_ at_ sub_ t_=>[ai kind_,ai n_,ai at_,.sl (jG sub_) sub_.length .no,ai t_.k,ai t_.n,zP zA t_.sub .no]def jG:List xN->List AV|[]=>[]|t::l=>vS t++jG l end
theorem E7:∀l:List xN,jG l=zC vS l|[]=>rfl|t::l=>by simp only[jG,E7 l,zC,List.flatMap_cons]
def zDw(x:xN):List AV:=[ai x.kind_,ai x.n_,ai x.at_,zP vS x.sub_ .no,ai x.t_.k,ai x.t_.n,zP zA x.t_.sub .no]
theorem dO(x:xN):vS x=zDw x:=by cases x;simp only[vS,zDw,xN.kind_,xN.n_,xN.at_,xN.sub_,xN.t_,E7,List.cons_append,List.nil_append]
def zDv(x:xN):AV:=.agg (zDw x)
mutual theorem S2:∀t:xN,AV.DataL (vS t)|.mk kind_ n_ at_ sub_ t_=>by rw[vS];exact⟨trivial,trivial,trivial,⟨trivial,E8 sub_⟩,trivial,trivial,⟨trivial,dT _⟩,trivial⟩theorem E8:∀l:List xN,AV.DataL (jG l)|[]=>trivial|t::l=>by rw[jG];exact sL (S2 t) (E8 l)end
theorem fV:vB vS 7:=⟨λx=>by rw[dO];rfl,S2,λx=>by rw[dO];rfl⟩
instance:Cd vS:=⟨fV.data⟩
structure xO where
 c_:List zJ
 args_:List Tm
instance:Inhabited xO:=⟨⟨default,default⟩⟩
def zEX(x:xO):List AV:=[zP zD x.c_ .no,zP zA x.args_ .no]
def qZ(x:xO):AV:=.agg (zEX x)
structure zLT where
 l_:List yL
 parts_:List tQ
instance:Inhabited zLT:=⟨⟨default,default⟩⟩
structure zLU where
 out_:Bool
 stuck_:Bool
 waits_:Bool
 none_:Bool
 n_:Int
 at_:Int
 binds_:List Tm
instance:Inhabited zLU:=⟨⟨default,default,default,default,default,default,default⟩⟩
structure zR where
 con_:Int
 yes_:Bool
 args_:List Int
 vars_:List zJ
 solved_:List zN
instance:Inhabited zR:=⟨⟨default,default,default,default,default⟩⟩
def yT(x:zR):List AV:=[ai x.con_,ab x.yes_,zP zY x.args_ .no,zP zD x.vars_ .no,zP zL x.solved_ .no]
def mI(x:zR):AV:=.agg (yT x)
theorem qC:vB yT 5:=⟨λ_=>rfl,λ_=>⟨trivial,trivial,⟨trivial,dI _⟩,⟨trivial,yC _⟩,⟨trivial,yD _⟩,trivial⟩,λ_=>rfl⟩
instance:Cd yT:=⟨qC.data⟩
theorem uB(l:List zR):AV.DataL (zC yT l):=vK qC.data l
structure xY where
 yes_:Bool
 vars_:List zJ
 solved_:List zN
 steps_:List Int
instance:Inhabited xY:=⟨⟨default,default,default,default⟩⟩
def zDu(x:xY):List AV:=[ab x.yes_,zP zD x.vars_ .no,zP zL x.solved_ .no,zP zY x.steps_ .no]
def vF(x:xY):AV:=.agg (zDu x)
structure zI where
 a_:Tm
 b_:Tm
instance:Inhabited zI:=⟨⟨default,default⟩⟩
def zO(x:zI):List AV:=[ai x.a_.k,ai x.a_.n,zP zA x.a_.sub .no,ai x.b_.k,ai x.b_.n,zP zA x.b_.sub .no]
def fX(x:zI):AV:=.agg (zO x)
theorem vH:vB zO 6:=⟨λ_=>rfl,λ_=>⟨trivial,trivial,⟨trivial,dT _⟩,trivial,trivial,⟨trivial,dT _⟩,trivial⟩,λ_=>rfl⟩
instance:Cd zO:=⟨vH.data⟩
theorem wM(l:List zI):AV.DataL (zC zO l):=vK vH.data l
structure zLV where e_:Int
instance:Inhabited zLV:=⟨⟨default⟩⟩
end Go.Ab
namespace Go.Proofs.YtohkcbcddindpaaGreat
open Go Go.Ab Go.Proofs.Tryz
theorem s7(b:Bool):b=true\/b=false:=by cases b<;>simp
theorem yO{α:Type}{p:α->Prop}:∀x∈([]:List α),p x:=λ_ h=>nomatch h
theorem yJ{α:Type}{p:α->Prop}{a:α}{l:List α}(h:p a)(k:∀x∈l,p x):∀x∈a::l,p x:=by
 intro x hx;rcases List.mem_cons.1 hx with rfl|hx;·exact h
 ·exact k x hx
theorem o0:OL prog [] []:=OL.nil
abbrev mB(M:xG)(i:Nat):yM:=.cells [zP xE M.l .no,.mp i 0,zP zY M.args .no,zP zY M.own .no]
abbrev mR(M:xG):yM:=.cells [zP xE M.rl .no,zP pN M.parts .no]
theorem tv:True:=trivial
theorem lz{a b:Nat}(h:Nat.ble (a+1) b=true):a<b:=Nat.le_of_ble_eq_true h
abbrev Ct:=CT prog
abbrev Cz{ρ:Type}:=@Cs prog ρ
abbrev Lz{ρ:Type}:=@Ls prog ρ
abbrev Ci:=uG prog
abbrev Cf:=FuncId->List yM->List AV->AV->List yM->Nat->Prop
abbrev Qf(f:FuncId)(fn:Func):Prop:=prog.funcs[f]?=some fn/\fn.body.isNone=false
theorem wF{p:Nat->Prop}(z:p 0)(s:∀n,p n->p (n+1)):∀n,p n:=λn=>Nat.rec z s n
section
variable{ρ:Type}{res:ρ->AV}{H1:ρ->List yM}{nst:Nat}{fn:Func}{o:Option ρ}{r x:ρ}{f:FuncId}{H0:List yM}{args:List AV}{os:List mS}{ob:List Ob}
theorem fw(q1:prog.funcs[f]?=some fn)(k:Rn prog (fT prog f fn H0 args res H1 nst) [] [] o)(q2:fn.body.isNone=false:=by kernel_rfl)(a:zYP H0 args res H1:=by(repeat' first|exact Cd.d _|exact trivial|exact lz rfl|exact yO|refine And.intro ?_ ?_|refine yJ ?_ ?_|refine sD ?_ ?_|intro _)):Cs prog o f H0 args res H1 nst:=fW q1 q2 a k
theorem fG(m:Nat)(rs:List (Option Nat×Nat×Nat))(keep ks:List Nat)(own:Bool)(h:bY prog qJ H0.length fn 3000 (.run (tI fn)) [] (args++List.replicate (fn.ntmps-args.length) (.val undef)) (aM H0) ((lZ m++os).reverseAux []) rs keep ks own=some (res x,H1 x,ob.reverseAux []):=by kernel_rfl)(hn:nst<=ks.length:=by decide):Rn prog (fT prog f fn H0 args res H1 nst) os ob (some x):=zVN wR mixed m rs keep ks own h hn
theorem fF(m:Nat)(keep:List Nat)(h:bY prog qJ H0.length fn 3000 (.run (tI fn)) [] (args++List.replicate (fn.ntmps-args.length) (.val undef)) (aM H0) ((lZ m++os).reverseAux []) [] keep [] false=some (res x,H1 x,ob.reverseAux []):=by kernel_rfl):Rn prog (fT prog f fn H0 args res H1 0) os ob (some x):=zVN wR mixed m [] keep [] false h (Nat.le_refl _)
theorem fE(m:Nat)(h:bY prog qJ H0.length fn 3000 (.run (tI fn)) [] (args++List.replicate (fn.ntmps-args.length) (.val undef)) (aM H0) ((lZ m++os).reverseAux []) [] (range' 0 H0.length) [] false=some (res x,H1 x,ob.reverseAux []):=by kernel_rfl):Rn prog (fT prog f fn H0 args res H1 0) os ob (some x):=zVN wR mixed m [] _ [] false h (Nat.le_refl _)
theorem fH(m:Nat)(rs:List (Option Nat×Nat×Nat))(keep ks live:List Nat){c:Code}{fs':List Fr}{E:(Nat->Value)->List AV}{S:yW}(hk:Ls prog o H0.length fn c E S res H1 nst fs')(h:∀j,aX prog qJ H0.length 3000 (.run (tI fn)) [] (args++List.replicate (fn.ntmps-args.length) (.val undef)) (aM H0) ((lZ m++os).reverseAux []) rs keep ks live j=some (c,fs',E j,S,ob.reverseAux []):=by intro j;kernel_rfl)(fe:∀j,AV.fineL vP (E j):=by intro j;refine E5 _ _ _ _ ?_;(repeat' first|exact Cd.d _|exact trivial|exact lz rfl|exact yO|refine And.intro ?_ ?_|refine yJ ?_ ?_|refine sD ?_ ?_|intro _))(fb:∀p∈S.H,p.2.fine vP:=by(repeat' first|exact Cd.d _|exact trivial|exact lz rfl|exact yO|refine And.intro ?_ ?_|refine yJ ?_ ?_|refine sD ?_ ?_|intro _)):Rn prog (fT prog f fn H0 args res H1 nst) os ob o:=zYQ wR mixed m rs keep ks live hk h fe fb
variable{na:Nb}{c:Code}{fs:List Fr}{env:List AV}{s:yW}
theorem lw{E:(Nat->Value)->List AV}(k:∀j,Rn prog (lT prog na fn res H1 nst c fs (E j) s) [] [] o)(a:∀r,(res r).fine vP/\∀X∈H1 r,X.fine vP:=by(repeat' first|exact Cd.d _|exact trivial|exact lz rfl|exact yO|refine And.intro ?_ ?_|refine yJ ?_ ?_|refine sD ?_ ?_|intro _)):Ls prog o na fn c E s res H1 nst fs:=lW a k
theorem lG(m:Nat)(rs:List (Option Nat×Nat×Nat))(keep ks:List Nat)(own:Bool)(h:bY prog qJ na.n fn 3000 (.run c) (.loop c::fs) env s ((lZ m++os).reverseAux []) rs keep ks own=some (res x,H1 x,ob.reverseAux []):=by kernel_rfl)(hn:nst<=ks.length:=by decide):Rn prog (lT prog na fn res H1 nst c fs env s) os ob (some x):=lFin wR mixed m rs keep ks own h hn
theorem lF(m:Nat)(keep:List Nat)(h:bY prog qJ na.n fn 3000 (.run c) (.loop c::fs) env s ((lZ m++os).reverseAux []) [] keep [] false=some (res x,H1 x,ob.reverseAux []):=by kernel_rfl):Rn prog (lT prog na fn res H1 0 c fs env s) os ob (some x):=lFin wR mixed m [] keep [] false h (Nat.le_refl _)
theorem lE(m:Nat)(h:bY prog qJ na.n fn 3000 (.run c) (.loop c::fs) env s ((lZ m++os).reverseAux []) [] (range' 0 na.n) [] false=some (res x,H1 x,ob.reverseAux []):=by kernel_rfl):Rn prog (lT prog na fn res H1 0 c fs env s) os ob (some x):=lFin wR mixed m [] _ [] false h (Nat.le_refl _)
theorem lH(m:Nat)(rs:List (Option Nat×Nat×Nat))(keep ks live:List Nat){c':Code}{fs':List Fr}{E:(Nat->Value)->List AV}{S:yW}(hk:Ls prog o na fn c' E S res H1 nst fs')(h:∀j,aX prog qJ na.n 3000 (.run c) (.loop c::fs) env s ((lZ m++os).reverseAux []) rs keep ks live j=some (c',fs',E j,S,ob.reverseAux []):=by intro j;kernel_rfl)(fe:∀j,AV.fineL vP (E j):=by intro j;refine E5 _ _ _ _ ?_;(repeat' first|exact Cd.d _|exact trivial|exact lz rfl|exact yO|refine And.intro ?_ ?_|refine yJ ?_ ?_|refine sD ?_ ?_|intro _))(fb:∀p∈S.H,p.2.fine vP:=by(repeat' first|exact Cd.d _|exact trivial|exact lz rfl|exact yO|refine And.intro ?_ ?_|refine yJ ?_ ?_|refine sD ?_ ?_|intro _)):Rn prog (lT prog na fn res H1 nst c fs env s) os ob o:=lHead wR mixed m rs keep ks live hk h fe fb
end
section
variable{f:FuncId}{fn:Func}{H0 H1:List yM}{args:List AV}{res:AV}{nst:Nat}{os:List mS}{ob:List Ob}
theorem tF(q:Qf f fn)(m:Nat)(keep:List Nat)(k:OL prog os ob)(h:U4 prog qJ H0.length fn 3000 (.run (tI fn)) [] (args++List.replicate (fn.ntmps-args.length) (.val undef)) (aM H0) ((lZ m++os).reverseAux []) [] keep [] false=some (res,H1,ob.reverseAux []):=by kernel_rfl):uG prog f H0 args res H1 0:=OL.toFin wR mixed q m [] keep [] false k h (Nat.le_refl _)
theorem tG(q:Qf f fn)(m:Nat)(rs:List (Option Nat×Nat×Nat))(keep ks:List Nat)(own:Bool)(k:OL prog os ob)(h:U4 prog qJ H0.length fn 3000 (.run (tI fn)) [] (args++List.replicate (fn.ntmps-args.length) (.val undef)) (aM H0) ((lZ m++os).reverseAux []) rs keep ks own=some (res,H1,ob.reverseAux []):=by kernel_rfl)(hn:nst<=ks.length:=by decide):uG prog f H0 args res H1 nst:=OL.toFin wR mixed q m rs keep ks own k h hn
theorem tH(q:Qf f fn)(m:Nat)(rs:List (Option Nat×Nat×Nat))(keep ks live:List Nat)(k:OL prog os ob){c:Code}{fs':List Fr}{E:(Nat->Value)->List AV}{S:yW}(hk:∀j,Dl prog H0.length c (E j) S (vA prog H0.length (oO prog H0.length fn res H1 nst) fs'))(h:∀j,C9 prog qJ H0.length 3000 (.run (tI fn)) [] (args++List.replicate (fn.ntmps-args.length) (.val undef)) (aM H0) ((lZ m++os).reverseAux []) rs keep ks live j=some (c,fs',E j,S,ob.reverseAux []):=by intro j;kernel_rfl):uG prog f H0 args res H1 nst:=OL.toHead wR mixed q m rs keep ks live k hk h
variable{na:Nb}{Q:AX->List AV->yW->Prop}{c c':Code}{fs fs':List Fr}{env:List AV}{s S:yW}
theorem olH(m:Nat)(rs:List (Option Nat×Nat×Nat))(keep ks live:List Nat)(k:OL prog os ob){E:(Nat->Value)->List AV}(hk:∀j,Dl prog na c' (E j) S (vA prog na Q fs'))(h:∀j,C9 prog qJ na.n 3000 (.run c) (.loop c::fs) env s ((lZ m++os).reverseAux []) rs keep ks live j=some (c',fs',E j,S,ob.reverseAux []):=by intro j;kernel_rfl):Dl prog na c env s (vA prog na Q fs):=OL.lHead wR mixed m rs keep ks live k hk h
theorem olF(m:Nat)(keep:List Nat)(k:OL prog os ob)(h:U4 prog qJ na.n fn 3000 (.run c) (.loop c::fs) env s ((lZ m++os).reverseAux []) [] keep [] false=some (res,H1,ob.reverseAux []):=by kernel_rfl):Dl prog na c env s (vA prog na (oO prog na fn res H1 0) fs):=OL.lFin wR mixed m [] keep [] false k h (Nat.le_refl _)
end
theorem oX:prog.info? 50=some Tryz.t50:=by kernel_rfl
theorem zVO{l m' m r:List zJ}{n k o n2:Nat}(hp:bW m' o n2=some m)(h:zLR k n l m=some r):Ob.ok prog (.inp (zHB prog 33 33 4 (zC zD l) n k (some 4) (bS (zC zD m') (o*4) n2 4) n2) (zC zD r)):=zOa wK Tryz.underlying33 oX rfl hp h
theorem E9:prog.info? 258=some Tryz.t258:=by kernel_rfl
theorem zDt{l m r:List zN}(h:yZ 48 l m=some r)(hm:m.length=0):Ob.ok prog (.app 161 161 (zC zL l) (zC zL m) (zC zL r) l.length m.length r.length 4 true):=dM wN Tryz.underlying161 E9 rfl rfl rfl (by decide) rfl (by decide) h hm
theorem mA:prog.info? 48=some Tryz.t48:=by kernel_rfl
theorem kH{l m r:List Tm}(h:yZ 40 l m=some r)(hm:m.length=0):Ob.ok prog (.app 22 22 (zC zA l) (zC zA m) (zC zA r) l.length m.length r.length 3 true):=dM uX Tryz.underlying22 mA rfl rfl rfl (by decide) rfl (by decide) h hm
theorem zYR{l m r:List zJ}(h:yZ 48 l m=some r)(hm:m.length=0):Ob.ok prog (.app 33 33 (zC zD l) (zC zD m) (zC zD r) l.length m.length r.length 4 true):=dM wK Tryz.underlying33 oX rfl rfl rfl (by decide) rfl (by decide) h hm
theorem S3:prog.info? 3=some Tryz.t3:=by kernel_rfl
theorem zJO{l m r:List Int}(h:yZ 8 l m=some r)(hm:m.length=0):Ob.ok prog (.app 58 58 (zC zY l) (zC zY m) (zC zY r) l.length m.length r.length 1 true):=dM lA Tryz.underlying58 S3 rfl rfl rfl (by decide) rfl (by decide) h hm
theorem zYS{n:Nat}(h:n=0):Ob.ok prog (.same 22 22 n):=W0 Tryz.underlying22 mA h
theorem dP:prog.info? 307=some Tryz.t307:=by kernel_rfl
theorem zVP{n:Nat}(h:n=0):Ob.ok prog (.same 295 295 n):=W0 Tryz.underlying295 dP h
theorem zYT{n:Nat}(h:n=0):Ob.ok prog (.same 33 33 n):=W0 Tryz.underlying33 oX h
theorem zYU{n:Nat}(h:n=0):Ob.ok prog (.same 58 58 n):=W0 Tryz.underlying58 S3 h
theorem zJP:prog.info? 184=some Tryz.t184:=by kernel_rfl
theorem zVQ{l m r:List zR}(h:yZ 88 l m=some r)(hm:m.length≠0):Ob.ok prog (.mk (lY prog 180 180 (some 5) (zC yT l) l.length none (zC yT m) m.length) (zC yT r) r.length):=jE qC Tryz.underlying180 zJP rfl rfl rfl (by decide) rfl (by decide) h hm
theorem zYV{l m r:List Tm}(h:yZ 40 l m=some r)(hm:m.length≠0):Ob.ok prog (.mk (lY prog 22 22 (some 3) (zC zA l) l.length none (zC zA m) m.length) (zC zA r) r.length):=jE uX Tryz.underlying22 mA rfl rfl rfl (by decide) rfl (by decide) h hm
theorem zOG{l m r:List zI}(h:yZ 80 l m=some r)(hm:m.length≠0):Ob.ok prog (.mk (lY prog 295 295 (some 6) (zC zO l) l.length none (zC zO m) m.length) (zC zO r) r.length):=jE vH Tryz.underlying295 dP rfl rfl rfl (by decide) rfl (by decide) h hm
theorem zYW{l m r:List zJ}(h:yZ 48 l m=some r)(hm:m.length≠0):Ob.ok prog (.mk (lY prog 33 33 (some 4) (zC zD l) l.length none (zC zD m) m.length) (zC zD r) r.length):=jE wK Tryz.underlying33 oX rfl rfl rfl (by decide) rfl (by decide) h hm
theorem zUW{l m r:List Int}(h:yZ 8 l m=some r)(hm:m.length≠0):Ob.ok prog (.mk (lY prog 58 58 (some 1) (zC zY l) l.length none (zC zY m) m.length) (zC zY r) r.length):=jE lA Tryz.underlying58 S3 rfl rfl rfl (by decide) rfl (by decide) h hm
theorem zSv{l m' m r:List zI}{o n j:Nat}(hp:bW m' o n=some m)(h:yZ 80 l m=some r)(hm:m.length≠0):Ob.ok prog (.mk (lY prog 295 295 (some 6) (zC zO l) l.length (some (j,j,6)) (bS (zC zO m') (o*6) n 6) n) (zC zO r) r.length):=zOb vH Tryz.underlying295 dP rfl rfl rfl (by decide) rfl (by decide) hp h hm
theorem zSu{l l' m r:List zN}{n:Nat}(hf:E1 n l=some l')(h:yZ 48 l' m=some r)(hm:m.length≠0):Ob.ok prog (.mk (lY prog 161 161 (some 4) (zC zL l) n none (zC zL m) m.length) (zC zL r) r.length):=zBE wN Tryz.underlying161 E9 rfl rfl rfl (by decide) rfl (by decide) hf h hm
theorem zVR{l l' m r:List Tm}{n:Nat}(hf:E1 n l=some l')(h:yZ 40 l' m=some r)(hm:m.length≠0):Ob.ok prog (.mk (lY prog 22 22 (some 3) (zC zA l) n none (zC zA m) m.length) (zC zA r) r.length):=zBE uX Tryz.underlying22 mA rfl rfl rfl (by decide) rfl (by decide) hf h hm
theorem zDs{l m r:List zN}(h:yZ 48 l m=some r)(hm:m.length≠0):Ob.ok prog (.app 161 161 (zC zL l) (zC zL m) (zC zL r) l.length m.length r.length 4 false):=qI wN Tryz.underlying161 E9 rfl rfl rfl (by decide) rfl (by decide) h hm
theorem zUX:prog.info? 9=some Tryz.t9:=by kernel_rfl
theorem zVS{l m r:List ByteArray}(h:yZ 16 l m=some r)(hm:m.length≠0):Ob.ok prog (.app 166 166 (zC K4 l) (zC K4 m) (zC K4 r) l.length m.length r.length 1 false):=qI zHQ Tryz.underlying166 zUX rfl rfl rfl (by decide) rfl (by decide) h hm
theorem zJQ:prog.info? 194=some Tryz.t194:=by kernel_rfl
theorem zVT{l m r:List rX}(h:yZ 56 l m=some r)(hm:m.length≠0):Ob.ok prog (.app 169 169 (zC aR l) (zC aR m) (zC aR r) l.length m.length r.length 3 false):=qI zCU Tryz.underlying169 zJQ rfl rfl rfl (by decide) rfl (by decide) h hm
theorem vZ{l m r:List Tm}(h:yZ 40 l m=some r)(hm:m.length≠0):Ob.ok prog (.app 22 22 (zC zA l) (zC zA m) (zC zA r) l.length m.length r.length 3 false):=qI uX Tryz.underlying22 mA rfl rfl rfl (by decide) rfl (by decide) h hm
theorem zOH:prog.info? 63=some Tryz.t63:=by kernel_rfl
theorem zYX{l m r:List yL}(h:yZ 192 l m=some r)(hm:m.length≠0):Ob.ok prog (.app 26 26 (zC xE l) (zC xE m) (zC xE r) l.length m.length r.length 15 false):=qI zCT Tryz.underlying26 zOH rfl rfl rfl (by decide) rfl (by decide) h hm
theorem zVU:prog.info? 56=some Tryz.t56:=by kernel_rfl
theorem zUY{l m r:List (List xN)}(h:yZ 24 l m=some r)(hm:m.length≠0):Ob.ok prog (.app 28 28 (zC (qS vS) l) (zC (qS vS) m) (zC (qS vS) r) l.length m.length r.length 1 false):=qI (zUV fV) Tryz.underlying28 zVU rfl rfl rfl (by decide) rfl (by decide) h hm
theorem zEY{l m r:List zJ}(h:yZ 48 l m=some r)(hm:m.length≠0):Ob.ok prog (.app 33 33 (zC zD l) (zC zD m) (zC zD r) l.length m.length r.length 4 false):=qI wK Tryz.underlying33 oX rfl rfl rfl (by decide) rfl (by decide) h hm
theorem zSt:prog.info? 163=some Tryz.t163:=by kernel_rfl
theorem zYY{l m r:List yP}(h:yZ 184 l m=some r)(hm:m.length≠0):Ob.ok prog (.app 34 34 (zC wA l) (zC wA m) (zC wA r) l.length m.length r.length 11 false):=qI nE Tryz.underlying34 zSt rfl rfl rfl (by decide) rfl (by decide) h hm
theorem zVV:prog.info? 72=some Tryz.t72:=by kernel_rfl
theorem zUZ{l m r:List xN}(h:yZ 88 l m=some r)(hm:m.length≠0):Ob.ok prog (.app 56 56 (zC vS l) (zC vS m) (zC vS r) l.length m.length r.length 7 false):=qI fV Tryz.underlying56 zVV rfl rfl rfl (by decide) rfl (by decide) h hm
theorem kI{l m r:List Int}(h:yZ 8 l m=some r)(hm:m.length≠0):Ob.ok prog (.app 58 58 (zC zY l) (zC zY m) (zC zY r) l.length m.length r.length 1 false):=qI lA Tryz.underlying58 S3 rfl rfl rfl (by decide) rfl (by decide) h hm
theorem zYZ{m r:List Tm}(h:yZ 40 ([]:List Tm) m=some r)(hm:m.length≠0):Ob.ok prog (.mk (lY prog 22 22 (none) [] 0 none (zC zA m) m.length) (zC zA r) r.length):=t6 uX Tryz.underlying22 mA rfl rfl rfl (by decide) rfl (by decide) h hm
theorem zZz{m r:List zJ}(h:yZ 48 ([]:List zJ) m=some r)(hm:m.length≠0):Ob.ok prog (.mk (lY prog 33 33 (none) [] 0 none (zC zD m) m.length) (zC zD r) r.length):=t6 wK Tryz.underlying33 oX rfl rfl rfl (by decide) rfl (by decide) h hm
theorem zZy{m r:List Int}(h:yZ 8 ([]:List Int) m=some r)(hm:m.length≠0):Ob.ok prog (.mk (lY prog 58 58 (none) [] 0 none (zC zY m) m.length) (zC zY r) r.length):=t6 lA Tryz.underlying58 S3 rfl rfl rfl (by decide) rfl (by decide) h hm
theorem zZx{l:List zJ}{o:Nat}{u:Unit}(h:gle l.length o=some u):Ob.ok prog (.clr 33 (zC zD l).length (o*4) 4):=yBv wK Tryz.underlying33 oX rfl rfl (by rfl) h
theorem zZw:prog.info? 4=some Tryz.t4:=by kernel_rfl
theorem zZv{l:List Bool}{i:Int}{o:Own}{x:Bool}(h:zV l i=some x):xM prog 121 (.sl (zC boC l) l.length o) (ai i)=some (.ip (boC x++zC boC (l.drop (i.toNat+1)))):=by have:=gJ zHX (k:=.i64) Tryz.underlying121 zZw rfl h (o:=o);exact this
theorem zDr:prog.info? 171=some Tryz.t171:=by kernel_rfl
theorem zZu{l:List tQ}{i:Int}{o:Own}{x:tQ}(h:zV l i=some x):xM prog 131 (.sl (zC pN l) l.length o) (ai i)=some (.ip (pN x++zC pN (l.drop (i.toNat+1)))):=by have:=gJ zCV (k:=.i64) Tryz.underlying131 zDr rfl h (o:=o);exact this
theorem zZt{l:List zN}{i:Int}{o:Own}{x:zN}(h:zV l i=some x):xM prog 161 (.sl (zC zL l) l.length o) (ai i)=some (.ip (zL x++zC zL (l.drop (i.toNat+1)))):=by have:=gJ wN (k:=.i64) Tryz.underlying161 E9 rfl h (o:=o);exact this
theorem zZs{l:List ByteArray}{i:Int}{o:Own}{x:ByteArray}(h:zV l i=some x):xM prog 166 (.sl (zC K4 l) l.length o) (ai i)=some (.ip (K4 x++zC K4 (l.drop (i.toNat+1)))):=by have:=gJ zHQ (k:=.i64) Tryz.underlying166 zUX rfl h (o:=o);exact this
theorem zZr{l:List rX}{i:Int}{o:Own}{x:rX}(h:zV l i=some x):xM prog 169 (.sl (zC aR l) l.length o) (ai i)=some (.ip (aR x++zC aR (l.drop (i.toNat+1)))):=by have:=gJ zCU (k:=.i64) Tryz.underlying169 zJQ rfl h (o:=o);exact this
theorem zVz{l:List zR}{i:Int}{o:Own}{x:zR}(h:zV l i=some x):xM prog 180 (.sl (zC yT l) l.length o) (ai i)=some (.ip (yT x++zC yT (l.drop (i.toNat+1)))):=by have:=gJ qC (k:=.i64) Tryz.underlying180 zJP rfl h (o:=o);exact this
theorem wE{l:List Tm}{i:Int}{o:Own}{x:Tm}(h:zV l i=some x):xM prog 22 (.sl (zC zA l) l.length o) (ai i)=some (.ip (R8 x++zC zA (l.drop (i.toNat+1)))):=by have:=gJ uX (k:=.i64) Tryz.underlying22 mA rfl h (o:=o);rw[wC]at this;exact this
theorem zVW:prog.info? 70=some Tryz.t70:=by kernel_rfl
theorem zOI{l:List (List zB)}{i:Int}{o:Own}{x:List zB}(h:zV l i=some x):xM prog 23 (.sl (zC (qS zK) l) l.length o) (ai i)=some (.ip ((qS zK) x++zC (qS zK) (l.drop (i.toNat+1)))):=by have:=gJ (zUV tD) (k:=.i64) Tryz.underlying23 zVW rfl h (o:=o);exact this
theorem wO{l:List yL}{i:Int}{o:Own}{x:yL}(h:zV l i=some x):xM prog 26 (.sl (zC xE l) l.length o) (ai i)=some (.ip (xE x++zC xE (l.drop (i.toNat+1)))):=by have:=gJ zCT (k:=.i64) Tryz.underlying26 zOH rfl h (o:=o);exact this
theorem s8{l:List zJ}{i:Int}{o:Own}{x:zJ}(h:zV l i=some x):xM prog 33 (.sl (zC zD l) l.length o) (ai i)=some (.ip (zD x++zC zD (l.drop (i.toNat+1)))):=by have:=gJ wK (k:=.i64) Tryz.underlying33 oX rfl h (o:=o);exact this
theorem gQ{l:List Int}{i:Int}{o:Own}{x:Int}(h:zV l i=some x):xM prog 58 (.sl (zC zY l) l.length o) (ai i)=some (.ip (zY x++zC zY (l.drop (i.toNat+1)))):=by have:=gJ lA (k:=.i64) Tryz.underlying58 S3 rfl h (o:=o);exact this
theorem zVX:prog.info? 76=some Tryz.t76:=by kernel_rfl
theorem zBx{l:List zB}{i:Int}{o:Own}{x:zB}(h:zV l i=some x):xM prog 70 (.sl (zC zK l) l.length o) (ai i)=some (.ip (kG x++zC zK (l.drop (i.toNat+1)))):=by have:=gJ tD (k:=.i64) Tryz.underlying70 zVX rfl h (o:=o);rw[sZ]at this;exact this
theorem zEZ{l:List Int}{i x:Int}(h:zV l i=some x)(hl:l.length=9):iA prog 262 (.agg (zC zY l)) (ai i)=some (ai x):=zOo (k:=.i64) Tryz.underlying262 (q:=(false,1)) (by kernel_rfl) rfl hl h
theorem zVY{b n k c z:Nat}{i:Int}(h:pX n i=some k):xM prog 131 (.ms b 0 n c z) (ai i)=some (.mp b (k*3)):=zDx Tryz.underlying131 zDr rfl h
theorem zDq{b n k c z:Nat}{i:Int}(h:pX n i=some k):xM prog 161 (.ms b 0 n c z) (ai i)=some (.mp b (k*4)):=zDx Tryz.underlying161 E9 rfl h
theorem zBI{b n k c z:Nat}{i:Int}(h:pX n i=some k):xM prog 22 (.ms b 0 n c z) (ai i)=some (.mp b (k*3)):=zDx Tryz.underlying22 mA rfl h
theorem zJR{b n k c z:Nat}{i:Int}(h:pX n i=some k):xM prog 33 (.ms b 0 n c z) (ai i)=some (.mp b (k*4)):=zDx Tryz.underlying33 oX rfl h
theorem zHZ{b o n k c z:Nat}{i:Int}(h:pX n i=some k):xM prog 295 (.ms b (o*6) n c z) (ai i)=some (.mp b ((o+k)*6)):=zSz Tryz.underlying295 dP rfl h
theorem zOJ{s:ByteArray}{i x:Int}(h:u5 s i=some x):iA prog 9 (at' s) (ai i)=some (.val (.int .u8 x)):=zOe Tryz.underlying9 h
theorem zVy(m:List (ByteArray×Int))(k:ByteArray):Ob.ok prog (.lk 187 (zDy m) (at' k) false (ai (zEL m k))):=zYJ Tryz.underlying187 Tryz.underlying9 S3 rfl m k
theorem zOK(m:List (Int×Int))(k:Int):Ob.ok prog (.lk 148 (aV m) (ai k) true (.tup [ai (zHU m k),ab (K9 m k)])):=zVJ Tryz.underlying148 Tryz.underlying3 S3 rfl m k
theorem zOL(m:List (Int×Int)):Ob.ok prog (.ln 148 (aV m) (ai (m.length:Int))):=zVL Tryz.underlying148 m
theorem zOM{n:Int}{l:List tQ}(h:gmk 72 (default:tQ) n=some l):Ob.ok prog (.mk (mH prog 131 (ai n) (ai n)) (zC pN l) l.length):=zYN Tryz.underlying131 zDr rfl rfl rfl (by decide) rfl (by decide) (by rfl) h
theorem zZq(m:List (ByteArray×Int))(k:ByteArray)(v:Int):Ob.ok prog (.mu 187 (zDy m) (at' k) (ai v) (zDy (u4 m k v))):=zYK Tryz.underlying187 Tryz.underlying9 m k v
theorem zVZ(m:List (Int×Int))(k v:Int):Ob.ok prog (.mu 148 (aV m) (ai k) (ai v) (aV (bK m k v))):=zVK Tryz.underlying148 Tryz.underlying3 m k v
theorem qK{l r:List Tm}{a:Int}(h:kE l a l.length=some r):wW prog 22 (.sl (zC zA l) l.length .no) (some (ai a)) none none=some (.sl (zC zA r) r.length .no):=zCX uX Tryz.underlying22 mA rfl h
theorem zZp{b o n c:Nat}{x y:Int}{r:Nat×Nat}(h:kS c x y=some r):wW prog 33 (.ms b (o*4) n c 4) (some (ai x)) (some (ai y)) none=some (.ms b ((o+r.1)*4) r.2 (c-r.1) 4):=zVH Tryz.underlying33 oX rfl (by decide) h
theorem zSs{b o n c:Nat}{x y:Int}{r:Nat×Nat}(h:kS n x y=some r):wW prog 33 (.ms b (o*4) n c 4) (some (ai x)) (some (ai y)) (some (ai (n:Int)))=some (.ms b ((o+r.1)*4) r.2 (n-r.1) 4):=zSy Tryz.underlying33 oX rfl (by decide) h
theorem zLY(b off n c:Nat):wW prog 295 (.ms b off n c 6) none (some (ai (n:Int))) (some (ai (n:Int)))=some (.ms b off n n 6):=zLP Tryz.underlying295 dP rfl (by decide) b off n c
theorem zIz{b o n c:Nat}{x:Int}{r:Nat×Nat}(h:kS n x n=some r):wW prog 295 (.ms b (o*6) n c 6) (some (ai x)) none none=some (.ms b ((o+r.1)*6) r.2 (c-r.1) 6):=u7 Tryz.underlying295 dP rfl (by decide) h
theorem zLZ{b o n c:Nat}{x:Int}{r:Nat×Nat}(h:kS n x n=some r):wW prog 33 (.ms b (o*4) n c 4) (some (ai x)) none none=some (.ms b ((o+r.1)*4) r.2 (c-r.1) 4):=u7 Tryz.underlying33 oX rfl (by decide) h
theorem zSr{b off n c:Nat}{y:Int}{r:Nat×Nat}(h:kS c 0 y=some r):wW prog 33 (.ms b off n c 4) none (some (ai y)) none=some (.ms b off r.2 c 4):=zOc Tryz.underlying33 oX rfl (by decide) h
theorem lI{l r:List Tm}{b:Int}(h:kE l 0 b=some r):wW prog 22 (.sl (zC zA l) l.length .no) none (some (ai b)) none=some (.sl (zC zA r) r.length .no):=zHR uX Tryz.underlying22 mA rfl h
theorem zON{l r:List Tm}{b:Int}{o:Own}(h:kE l 0 b=some r):wW prog 22 (.sl (zC zA l) l.length o) none (some (ai b)) (some (ai b))=some (.sl (zC zA r) r.length .full):=zER uX Tryz.underlying22 mA rfl h
theorem zJS{l r:List Tm}{b:Int}{o:Own}(h:kE l 0 b=some r):∃a0,wW prog 22 (.sl (zC zA l) l.length o) none (some (ai b)) none=some a0/\a0.frz=.sl (zC zA r) r.length .no:=zEG uX Tryz.underlying22 mA rfl h
def ptG:Nat->Nat->Func->Code|0,_,f=>tI f|k+1,n,f=>if n=0 then tI f else if n%4=1 then inn (ptG k (n/4) f)else if n%4=2 then nY (ptG k (n/4) f)else uF (ptG k (n/4) f)
abbrev pt:=ptG 99
abbrev Oz:=OL prog
abbrev dL:=Dl prog
abbrev fQ:=vA prog
abbrev nQ:=oO prog
abbrev qB(q0:List yL)(m:Nat)(q3 q4:List Int):yM:=.cells [zP xE q0 .no,.mp m 0,zP zY q3 .no,zP zY q4 .no]
abbrev qR(q1:List yL)(q2:List tQ):yM:=.cells [zP xE q1 .no,zP pN q2 .no]
theorem oDm{os:List mS}{ob:List Ob}(q0 q1:List yL)(q2:List tQ)(q3 q4:List Int)(k:Oz os ob):Oz os (.data (zC pN q2)::.data (zC xE q1)::.data (zC zY q4)::.data (zC zY q3)::.data (zC xE q0)::ob):=oD (dC q2)<|oD (dE q1)<|oD (dI q4)<|oD (dI q3)<|oD (dE q0) k
theorem L2{os:List mS}{ob:List Ob}(M:xG)(k:Oz os ob):Oz os (.data (zC pN M.parts)::.data (zC xE M.rl)::.data (zC zY M.own)::.data (zC zY M.args)::.data (zC xE M.l)::ob):=oDm M.l M.rl M.parts M.args M.own k
theorem fMa{n m:Nat}{q0 q1:List yL}{q2:List tQ}{q3 q4:List Int}{l:List yM}(h:m<n)(k:∀X∈l,X.arg (λi=>i<n)):∀X∈qB q0 m q3 q4::qR q1 q2::l,X.arg (λi=>i<n):=yJ ⟨⟨tv,dE _⟩,h,⟨tv,dI _⟩,⟨tv,dI _⟩,tv⟩ (yJ ⟨⟨tv,dE _⟩,⟨tv,dC _⟩,tv⟩ k)
theorem fMf{n m:Nat}{q0 q1:List yL}{q2:List tQ}{q3 q4:List Int}{l:List yM}(h:m<n)(k:∀X∈l,X.fine (λi=>i<n)):∀X∈qB q0 m q3 q4::qR q1 q2::l,X.fine (λi=>i<n):=yJ ⟨dE _,h,dI _,dI _,tv⟩ (yJ ⟨dE _,dC _,tv⟩ k)
abbrev yV:=List Tm
abbrev yE:=List Int
abbrev xQ:=List zJ
abbrev xJ:=List yL
abbrev tT:=List zN
abbrev tR:=List tQ
abbrev nF:=List zI
mutual def zMz:Nat->Tm->Int->Option (Int)|0,_,_=>none|c+1,a,d=>dQ c a (xF (d+1)) 0 def dQ:Nat->Tm->Int->Int->Option (Int)
 |0,_,_,_=>none|c+1,a,e,b=>if decide (b<(a.sub.length:Int))then zV a.sub b>>=λx2=>if decide (e>8192)then some e else zMz c x2 e>>=λr5=>dQ c a r5 (xF (b+1))else some e end
theorem zFz:∀c:Nat,(∀a d,Cz (zMz c a d) 198 [] [yY a,ai d] (λr=>ai r) (λ_=>[]) 0)/\(∀a e b,Lz (dQ c a e b) 0 f198 (pt 4021 f198) (λj=>sp j 23 0 [(1,ai e),(10,zP zA a.sub .no),(11,ai (a.sub.length:Int)),(12,ai b)]) ⟨[],0,[],0,[]⟩ (λr=>ai r) (λ_=>[]) 0 [.blk 0,.seq (pt 63 f198)]):=wF ⟨λ_ _=>cN,λ_ _ _=>lN⟩ λc ih=>⟨λa d=>fw func198<|fH 3 [] [] [] [1,10,11,12] (ih.2 _ _ _),λa e b=>lw λ_=>rB 0 (rA 0 (wE (o:=.no)) λ_=>rB 2 (lE 0)<|rC 1 [] (ih.1 _ _) λ_=>lH 1 [] [] [] [1,10,11,12] (ih.2 _ _ _))<|lE 0⟩
theorem yBt{c a d}:Cz (zMz c a d) 198 [] [yY a,ai d] (λr=>ai r) (λ_=>[]) 0:=(zFz _).1 _ _
def zMy(b:Nat)(a:Tm):Option (Int):=zMz b a 0>>=λr1=>some r1
theorem zWz{b a}:Cz (zMy b a) 165 [] [yY a] (λr=>ai r) (λ_=>[]) 0:=fw func165<|rC 1 [] yBt λ_=>fE 0
mutual def zMx:Nat->Tm->Int->Option (Int)
 |0,_,_=>none|d+1,b,a=>if decide (a>128)then some a else dS d b a 0 a def dS:Nat->Tm->Int->Int->Int->Option (Int)
 |0,_,_,_,_=>none|d+1,b,a,c,e=>if decide (c<(b.sub.length:Int))then zV b.sub c>>=λx3=>zMx d x3 (xF (a+1))>>=λr5=>dS d b a (xF (c+1)) (kP e r5)else some e end
theorem zFy:∀d:Nat,(∀b a,Cz (zMx d b a) 166 [] [yY b,ai a] (λr=>ai r) (λ_=>[]) 0)/\(∀b a c e,Lz (dS d b a c e) 0 f166 (pt 16309 f166) (λj=>sp j 27 0 [(1,ai a),(5,ai e),(13,zP zA b.sub .no),(14,ai (b.sub.length:Int)),(15,ai c)]) ⟨[],0,[],0,[]⟩ (λr=>ai r) (λ_=>[]) 0 [.blk 0,.seq (pt 255 f166)]):=wF ⟨λ_ _=>cN,λ_ _ _ _=>lN⟩ λd ih=>⟨λb a=>fw func166<|rB 0 (fE 0)<|fH 2 [] [] [] [1,5,13,14,15] (ih.2 _ _ _ _),λb a c e=>lw λ_=>rB 0 (rA 0 (wE (o:=.no)) λ_=>rC 4 [] (ih.1 _ _) λ_=>lH 2 [] [] [] [1,5,13,14,15] (ih.2 _ _ _ _))<|lE 0⟩
theorem yBs{d b a}:Cz (zMx d b a) 166 [] [yY b,ai a] (λr=>ai r) (λ_=>[]) 0:=(zFy _).1 _ _
def zSq(b:Nat)(a:Tm):Option (Int):=zMy b a>>=λr1=>if decide (r1>8192)then some 129 else zMx b a 1>>=λr4=>some r4
theorem yBr{b a}:Cz (zSq b a) 123 [] [yY a] (λr=>ai r) (λ_=>[]) 0:=fw func123<|rC 1 [] zWz λ_=>rB 0 (fE 0)<|rC 1 [] yBs λ_=>fE 0
def zSp(b:Nat)(a:Tm):Option (Bool):=if decide (a.k<1)then some false else if decide (a.k>8)then some false else zV ([0,0,0,2,2,2,0,1,0]:yE) a.k>>=λx3=>zV ([0,1048576,7,0,0,0,1048576,1048576,1048576]:yE) a.k>>=λx5=>if(a.sub.length:Int)==x3 then if decide (a.n>=0)then if decide (a.n<=x5)then if a.k !=7 then some true else zV a.sub 0>>=λx11=>some (x11.k==2)else some false else some false else some false
theorem yBq{b a}:Cz (zSp b a) 167 [] [yY a] (λr=>ab r) (λ_=>[]) 0:=fw func167<|rB 1 (fE 0)<|rB 1 (fE 0)<|rW (λh4=>oA 1 (zEZ h4 rfl)) λ_=>rW (λh6=>oA 1 (zEZ h6 rfl)) λ_=>rB 2 (rB 1 (rB 1 (rB 1 (fE 0)<|rA 1 (wE (o:=.no)) λ_=>fE 2)<|fE 0)<|fE 0)<|fE 0
mutual def zMw:Nat->Tm->Option (Bool)
 |0,_=>none|c+1,a=>zSp c a>>=λr1=>if r1 then dU c a 0 else some false def dU:Nat->Tm->Int->Option (Bool)
 |0,_,_=>none|c+1,a,b=>if decide (b<(a.sub.length:Int))then zV a.sub b>>=λx5=>zMw c x5>>=λr7=>if r7 then dU c a (xF (b+1))else some false else some true end
theorem zFx:∀c:Nat,(∀a,Cz (zMw c a) 124 [] [yY a] (λr=>ab r) (λ_=>[]) 0)/\(∀a b,Lz (dU c a b) 0 f124 (pt 4021 f124) (λj=>sp j 19 0 [(9,zP zA a.sub .no),(10,ai (a.sub.length:Int)),(11,ai b)]) ⟨[],0,[],0,[]⟩ (λr=>ab r) (λ_=>[]) 0 [.blk 0,.seq (pt 63 f124)]):=wF ⟨λ_=>cN,λ_ _=>lN⟩ λc ih=>⟨λa=>fw func124<|rK 1 [] yBq (λ_=>fH 3 [] [] [] [9,10,11] (ih.2 _ _)) λ_=>fE 1,λa b=>lw λ_=>rB 0 (rA 0 (wE (o:=.no)) λ_=>rK 3 [] (ih.1 _) (λ_=>lH 2 [] [] [] [9,10,11] (ih.2 _ _)) λ_=>lE 1)<|lE 0⟩
theorem yBp{c a}:Cz (zMw c a) 124 [] [yY a] (λr=>ab r) (λ_=>[]) 0:=(zFx _).1 _
def dV(b:Nat)(a:Tm):Option (Bool):=zSq b a>>=λr1=>if decide (r1<=128)then zMw b a>>=λr4=>some r4 else some false
theorem aA{b a}:Cz (dV b a) 93 [] [yY a] (λr=>ab r) (λ_=>[]) 0:=fw func93<|rC 1 [] yBr λ_=>rB 0 (rC 1 [] yBp λ_=>fE 0)<|fE 0
mutual theorem zJT:∀(t:Tm)(h:Int),t.Ok->0<=h->h<=8192->zH (λq=>zMz q t h) (szT t h)|.mk k n l,h,ho,h0,h1=>by refine zH.succ ?_;simp only[zMz];rw[yQ (by omega) (by omega),szT];exact zFw l (.mk k n l) 0 (h+1) rfl ho.1 ho.2 (by omega) (by omega)theorem zFw:∀(l:List Tm)(p:Tm)(v:Nat)(h:Int),p.sub.drop v=l->p.sub.length<9223372036854775808->kQ l->0<=h->h<=8193->zH (λq=>dQ q p h (v:Int)) (szL l h)
 |[],p,v,h,hd,hl,ho,h0,h1=>by refine zH.succ ?_;simp only[dQ];rw[szL];exact zH.ifF (yB hd) zH.ret|t::l,p,v,h,hd,hl,ho,h0,h1=>by
  refine zH.succ ?_;simp only[dQ];refine zH.ifT (yA hd) (zH.pure (zZ hd) ?_);rw[szL];by_cases h2:h>8192;·rw[if_pos h2];exact zH.ifT (by simpa using h2) zH.ret
  ·rw[if_neg h2];refine zH.ifF (by simpa using h2) ((zJT t h ho.1 h0 (by omega)).bind ?_);rw[zW v (by have:=yF hd;omega)];have:=zEI t h h0 (by omega);exact zFw l p (v+1) (szT t h) (zS hd) hl ho.2 (by omega) (by omega)end
theorem zDp(t:Tm)(ho:t.Ok):zH (λq=>zMy q t) (szT t 0):=by simp only[zMy];exact(zJT t 0 ho (by omega) (by omega)).bind zH.ret
mutual theorem zJU:∀(t:Tm)(a:Int),t.Ok->0<=a->a<=129->zH (λq=>zMx q t a) (dpT t a)
 |.mk k n l,a,ho,h0,h1=>by
  refine zH.succ ?_;simp only[zMx];rw[dpT];by_cases h2:a>128;·rw[if_pos h2];exact zH.ifT (by simpa using h2) zH.ret
  ·rw[if_neg h2];exact zH.ifF (by simpa using h2) (zFv l (.mk k n l) 0 a a rfl ho.1 ho.2 h0 (by omega))theorem zFv:∀(l:List Tm)(p:Tm)(v:Nat)(a m:Int),p.sub.drop v=l->p.sub.length<9223372036854775808->kQ l->0<=a->a<=128->zH (λq=>dS q p a (v:Int) m) (dpL l a m)|[],p,v,a,m,hd,hl,ho,h0,h1=>by refine zH.succ ?_;simp only[dS];rw[dpL];exact zH.ifF (yB hd) zH.ret|t::l,p,v,a,m,hd,hl,ho,h0,h1=>by refine zH.succ ?_;simp only[dS];refine zH.ifT (yA hd) (zH.pure (zZ hd) ?_);rw[dpL,yQ (x:=a+1) (by omega) (by omega)];refine(zJU t (a+1) ho.1 (by omega) (by omega)).bind ?_;rw[zW v (by have:=yF hd;omega)];exact zFv l p (v+1) a _ (zS hd) hl ho.2 h0 h1 end
def zOO(t:Tm):Int:=if szT t 0>8192 then 129 else dpT t 1
theorem zOP(t:Tm)(ho:t.Ok):zH (λq=>zSq q t) (zOO t):=by
 simp only[zSq];refine(zDp t ho).bind ?_;unfold zOO;by_cases h:szT t 0>8192;·rw[if_pos h];exact zH.ifT (by simpa using h) zH.ret
 ·rw[if_neg h];exact zH.ifF (by simpa using h) ((zJU t 1 ho (by omega) (by omega)).bind zH.ret)
theorem zSo(t:Tm):zOO t<=128↔t.nodes<=8192/\t.high<=128:=by
 have h1:=zOn t 0 (by omega) (by omega);have h2:=zOl t 1 (by omega) (by omega);unfold zOO;by_cases h3:t.nodes<=8192
 ·rw[if_neg (by rw[h1.1 (by omega)];omega)];by_cases h4:t.high<=128;·rw[h2.1 (by omega)];omega
  ·rw[h2.2 (by omega)];omega
 ·rw[if_pos (by rw[h1.2 (by omega)];omega)];omega
theorem zSn(t:Tm):zH (λq=>zSp q t) (D3 t):=by
 refine zH.mk λq=>?_;unfold zSp D3;generalize t.k=k;generalize t.n=n;generalize t.sub=l;by_cases h1:k<1;·rw[zVM (decide_eq_true h1)];simp;omega
 ·by_cases h2:k>8;·rw[zSw (decide_eq_false h1),zVM (decide_eq_true h2)];simp;omega
  ·rw[zSw (decide_eq_false h1),zSw (decide_eq_false h2)];have:k=1\/k=2\/k=3\/k=4\/k=5\/k=6\/k=7\/k=8:=by omega
   rcases this with rfl|rfl|rfl|rfl|rfl|rfl|rfl|rfl;case inr.inr.inr.inr.inr.inr.inl=>rcases l with _|⟨x,_|⟨y,l⟩⟩<;>simp[zV]<;>grind
   case inr.inr.inl|inr.inr.inr.inl|inr.inr.inr.inr.inl=>
    by_cases hl:l.length=2;·simp[zV,hl];grind
    ·have h':¬((l.length:Int)=2):=by omega
     simp[zV,hl,h']
   all_goals(simp[zV];grind)
mutual theorem zJV:∀(t:Tm),t.Ok->zH (λq=>zMw q t) (xZ t)|.mk k n l,ho=>by refine zH.succ ?_;simp only[zMw];refine(zSn (.mk k n l)).bind ?_;rw[xZ];cases D3 (.mk k n l)with|false=>exact zH.ifF rfl zH.ret|true=>exact zH.ifT rfl (zFu l (.mk k n l) 0 rfl ho.1 ho.2)theorem zFu:∀(l:List Tm)(p:Tm)(v:Nat),p.sub.drop v=l->p.sub.length<9223372036854775808->kQ l->zH (λq=>dU q p (v:Int)) (pP l)|[],p,v,hd,hl,ho=>by refine zH.succ ?_;simp only[dU];rw[pP];exact zH.ifF (yB hd) zH.ret|t::l,p,v,hd,hl,ho=>by refine zH.succ ?_;simp only[dU];refine zH.ifT (yA hd) (zH.pure (zZ hd) ((zJV t ho.1).bind ?_));rw[pP];cases xZ t with|false=>exact zH.ifF rfl zH.ret|true=>refine zH.ifT rfl ?_;rw[zW v (by have:=yF hd;omega)];exact zFu l p (v+1) (zS hd) hl ho.2 end
theorem xI(t:Tm)(ho:t.Ok):zH (λq=>dV q t) (zF t):=by
 simp only[dV];refine(zOP t ho).bind ?_;have h:=zSo t;unfold zF;by_cases h1:zOO t<=128
 ·refine zH.ifT (by simpa using h1) (((zJV t ho).bind zH.ret).eq ?_);have:=h.1 h1;simp[this.1,this.2]
 ·refine zH.ifF (by simpa using h1) (zH.ret.eq ?_);by_cases h2:t.nodes<=8192
  ·by_cases h3:t.high<=128;·exact absurd (h.2 ⟨h2,h3⟩) h1
   ·simp[h3]
  ·simp[h2]
def zSm(c:Nat)(a:Tm)(b:Int):Option (Int):=if b==1 then if a.k==3 then some 1 else if a.k==4 then some 1 else some 0 else some 0
theorem yBo{c a b}:Cz (zSm c a b) 125 [] [yY a,ai b] (λr=>ai r) (λ_=>[]) 0:=fw func125<|rB 0 (rB 1 (fE 0)<|rB 1 (fE 0)<|fE 0)<|fE 0
mutual def e95:Nat->Tm->Int->Option (Int)|0,_,_=>none|d+1,a,c=>if a.k==1 then some (kP 0 (xF ((xF (a.n+1))-c)))else L3 d a c 0 0 def L3:Nat->Tm->Int->Int->Int->Option (Int)|0,_,_,_,_=>none|d+1,a,c,b,e=>if decide (b<(a.sub.length:Int))then zV a.sub b>>=λx3=>zSm d a b>>=λr5=>e95 d x3 (xF (c+r5))>>=λr7=>L3 d a c (xF (b+1)) (kP e r7)else some e end
theorem zMv:∀d:Nat,(∀a c,Cz (e95 d a c) 95 [] [yY a,ai c] (λr=>ai r) (λ_=>[]) 0)/\(∀a c b e,Lz (L3 d a c b e) 0 f95 (pt 16309 f95) (λj=>sp j 36 0 [(1,ai c),(2,.mp 0 0),(5,ai e),(18,zP zA a.sub .no),(19,ai (a.sub.length:Int)),(20,ai b)]) ⟨[(0,.cells [ai a.k,ai a.n,zP zA a.sub .no])],1,[],0,[]⟩ (λr=>ai r) (λ_=>[]) 0 [.blk 0,.seq (pt 255 f95)]):=wF ⟨λ_ _=>cN,λ_ _ _ _=>lN⟩ λd ih=>⟨λa c=>fw func95<|rB 1 (fE 4)<|fH 2 [] [0] [] [1,2,5,18,19,20] (ih.2 _ _ _ _),λa c b e=>lw λ_=>rB 0 (rA 0 (wE (o:=.no)) λ_=>rC 4 [] yBo λ_=>rC 1 [] (ih.1 _ _) λ_=>lH 2 [] [0] [] [1,2,5,18,19,20] (ih.2 _ _ _ _))<|lE 0⟩
theorem c95{d a c}:Cz (e95 d a c) 95 [] [yY a,ai c] (λr=>ai r) (λ_=>[]) 0:=(zMv _).1 _ _
mutual def e98:Nat->Tm->Int->Int->Option yE|0,_,_,_=>none|e+1,a,b,c=>if a.k==b then yZ 8 ([]:yE) [a.n]>>=λl2=>iN e a b c 0 l2 else if a.k==c then yZ 8 ([]:yE) [a.n]>>=λl5=>iN e a b c 0 l5 else iN e a b c 0 []def iN:Nat->Tm->Int->Int->Int->yE->Option yE|0,_,_,_,_,_=>none|e+1,a,b,c,d,f=>if decide (d<(a.sub.length:Int))then zV a.sub d>>=λx5=>e98 e x5 b c>>=λr7=>yZ 8 f r7>>=λl9=>iN e a b c (xF (d+1)) l9 else some f end
theorem zMu:∀e:Nat,(∀a b c,Cz (e98 e a b c) 98 [] [yY a,ai b,ai c] (λr=>zP zY r (.st 0 1)) (λ_=>[]) 1)/\(∀a b c d f,Lz (iN e a b c d f) 0 f98 (pt 16309 f98) (λj=>sp j 40 0 [(1,ai b),(2,ai c),(7,zP zY f (.st 0 1)),(26,zP zA a.sub .no),(27,ai (a.sub.length:Int)),(28,ai d)]) ⟨[],0,[0],1,[]⟩ (λr=>zP zY r (.st 0 1)) (λ_=>[]) 1 [.blk 0,.seq (pt 255 f98)]/\Lz (iN e a b c d f) 0 f98 (pt 16309 f98) (λj=>sp j 40 0 [(1,ai b),(2,ai c),(7,zP zY f .nl),(26,zP zA a.sub .no),(27,ai (a.sub.length:Int)),(28,ai d)]) ⟨[],0,[],0,[]⟩ (λr=>zP zY r (.st 0 1)) (λ_=>[]) 1 [.blk 0,.seq (pt 255 f98)]):=wF ⟨λ_ _ _=>cN,λ_ _ _ _ _=>⟨lN,lN⟩⟩ λe ih=>⟨λa b c=>fw func98<|rB 1 (rW (λh3=>oP 2 (kI h3 (by simp))) λ_=>fH 2 [] [] [0] [1,2,7,26,27,28] ((ih.2 _ _ _ _ _).1))<|rB 1 (rW (λh6=>oP 2 (kI h6 (by simp))) λ_=>fH 2 [] [] [0] [1,2,7,26,27,28] ((ih.2 _ _ _ _ _).1))<|fH 2 [] [] [] [1,2,7,26,27,28] ((ih.2 _ _ _ _ _).2),λa b c d f=>⟨lw λ_=>rB 0 (rA 0 (wE (o:=.no)) λ_=>rC 3 [] (ih.1 _ _ _) λr7=>rH λ_ h10=>rZ (List.length r7=0) (λh11=>rS (oP 0 (zJO h10 h11))<|lH 1 [] [] [0] [1,2,7,26,27,28] ((ih.2 _ _ _ _ _).1)) λh11=>rS (oP 0 (kI h10 h11))<|lH 1 [] [] [2] [1,2,7,26,27,28] ((ih.2 _ _ _ _ _).1))<|lG 0 [] [] [0] true,lw λ_=>rB 0 (rA 0 (wE (o:=.no)) λ_=>rC 3 [] (ih.1 _ _ _) λr7=>rH λ_ h10=>rZ (List.length r7=0) (λh11=>rS (oP 0 (zJO h10 h11))<|lH 1 [] [] [] [1,2,7,26,27,28] ((ih.2 _ _ _ _ _).2)) λh11=>rS (oP 0 (kI h10 h11))<|lH 1 [] [] [1] [1,2,7,26,27,28] ((ih.2 _ _ _ _ _).1))<|lG 0 [(none,6,1)] [] [0] true⟩⟩
theorem c98{e a b c}:Cz (e98 e a b c) 98 [] [yY a,ai b,ai c] (λr=>zP zY r (.st 0 1)) (λ_=>[]) 1:=(zMu _).1 _ _ _
def e96(c:Nat)(a:Tm):Option yE:=(dV c a)>>=λr1=>if r1=true then(e98 c a 6 7)>>=λr4=>if decide (List.length r4<4611686018427387904)=true then some (vG r4)else none else some []
theorem yBn{c:Nat}{a:Tm}{r:yE}(h:e96 c a=some r):CT prog 96 [] [yY a] (.sl (zC zY r) r.length .no) [] 0:=by
 unfold e96 at h;obtain⟨r1,h2,h⟩:=wP h;rcases s7 r1 with h3|h3
 ·replace h:=ifT h3 h;obtain⟨l,h5,h⟩:=wP h;rcases s7 (decide (List.length l<4611686018427387904))with h6|h6
  ·replace h:=ifT h6 h;replace h:=Option.some.inj h;subst h;subst h3;have hsz:List.length l<4611686018427387904:=by simpa using h6
   refine⟨?_,⟨⟨trivial,trivial,⟨trivial,dT _⟩,trivial⟩,trivial⟩,(λ_ h=>nomatch h),dI _,(λ_ h=>nomatch h)⟩;have k0:knd (tI f96)=1:=by kernel_rfl
   have k1:knd (uF (tI f96))=1:=by kernel_rfl
   have k2:knd (uF (uF (tI f96)))=1:=by kernel_rfl
   have k3:D6 (nY (uF (uF (tI f96))))=true:=by kernel_rfl
   have k4:zCZ (vC (nY (uF (uF (tI f96)))))[2]?=some (some 8,97,#[.tmp 7]):=by kernel_rfl
   have k5:(f97.name=="runtime.NumGoroutine")=false:=by kernel_rfl
   have k6:f97.body.isNone=false:=by kernel_rfl
   have x1:pK prog qJ 3000 (.run (nY (tI f96))) [] ([yY a]++List.replicate (f96.ntmps-1) (.val undef)) (aM []) []=some (.fin .normal,[yY a,.mp 0 0,.sl [] 0 .nl,.val undef,.val undef,.val undef,.val undef,.val undef,.val undef],⟨[(0,.cells (R8 a))],1,[],0,[]⟩,[],[]):=by kernel_rfl
   have x2:pK prog qJ 3000 (.run (nY (uF (tI f96)))) [] [yY a,.mp 0 0,.sl [] 0 .nl,.val undef,.val undef,.val undef,.val undef,.val undef,.val undef] ⟨[(0,.cells (R8 a))],1,[],0,[]⟩ [.no,.call [] [] 0 (ab true) (some true),.no]=some (.fin .normal,[yY a,.mp 0 0,.sl [] 0 .nl,yY a,ab true,ab false,.val undef,.val undef,.val undef],⟨[(0,.cells (R8 a))],1,[],0,[]⟩,[],[.bit true true,.call 93 [] [yY a] (ab true) [] 0]):=by kernel_rfl
   have x3:(bJ prog qJ (vC (nY (uF (uF (tI f96))))) ((vC (nY (uF (uF (tI f96))))).toList.take 2) 0 [yY a,.mp 0 0,.sl [] 0 .nl,yY a,ab true,ab false,.val undef,.val undef,.val undef] ⟨[(0,.cells (R8 a))],1,[],0,[]⟩ [.no,.call [] [] 1 (.sl (zC zY l) l.length (.st 0 1)) none]).map Prod.snd=some ([yY a,.mp 0 0,.sl [] 0 .nl,yY a,ab true,ab false,yY a,.sl (zC zY l) l.length (.st 0 1),.val undef],⟨[(0,.cells (R8 a))],1,[0],1,[]⟩,[],[.call 98 [] [yY a,ai 6,ai 7] (.sl (zC zY l) l.length (.st 0 1)) [] 1]):=by kernel_rfl
   have x4:∀j:Nat->Value,(bJ prog qJ (vC (nY (uF (uF (tI f96))))) ((vC (nY (uF (uF (tI f96))))).toList.drop 3) 3 (eset (tells [] (mutEnv [] j [yY a,.mp 0 0,.sl [] 0 .nl,yY a,ab true,ab false,yY a,.sl (zC zY l) l.length (.st 0 1),.val undef] 0)) (some 8) (.sl (zC zY (vG l)) (vG l).length .no)) (nZ [] ⟨[(0,.cells (R8 a))],1,[0],1,[]⟩) []).map Prod.snd=some ([.val (j 0),.val (j 1),.sl (zC zY (vG l)) (vG l).length .no,.val (j 3),ab true,ab false,.val (j 6),.val (j 7),.sl (zC zY (vG l)) (vG l).length .no],⟨[],1,[],0,[]⟩,[],[]):=λj=>by kernel_rfl
   have x5:∀j:Nat->Value,U4 prog qJ 0 f96 3000 (.run (uF (uF (uF (tI f96))))) [] [.val (j 0),.val (j 1),.sl (zC zY (vG l)) (vG l).length .no,.val (j 3),ab true,ab false,.val (j 6),.val (j 7),.sl (zC zY (vG l)) (vG l).length .no] ⟨[],1,[],0,[]⟩ [] [] [] [] false=some (.sl (zC zY (vG l)) (vG l).length .no,[],[.data (zC zY (vG l))]):=λj=>by kernel_rfl
   refine uG.body func96 (by kernel_rfl) ?_;refine Dv.seqP k0 ?_;refine nD (Q:=_) wR mixed 3000 (.run (nY (tI f96))) [] _ _ _ _ _ _ _ _ x1 yR.nil ?_;refine Dv.seqP k1 ?_;refine nD (Q:=_) wR mixed 3000 (.run (nY (uF (tI f96)))) [] _ _ _ _ _ _ _ _ x2 (yR.cons (zJK rfl) (yR.cons (fM (aA _ h2)) yR.nil)) ?_;refine Dv.seqP k2 ?_;obtain⟨id,k7⟩:=zRY k3;rw[k7];refine Dv.mut wR (na:=(0:Nat)) rfl 2 [] [] _ x3 (yR.cons (fM (c98 _ h5)) yR.nil) k4 func97 k5 k6 (λi X h=>by cases h) ?_ x4 yR.nil ?_;·intro G0 W hB G w hE hR u hu;refine(zBB hR (by rfl) hsz hu).mono ?_;rintro e w'⟨v,b,S,z1,z2,z3,z4,z5,z6⟩;exact⟨v,b,S,z1,z2,z3,z4,z5,λG' _ _ hS=>⟨z6 G' hS,λq hq=>by cases hq⟩⟩
   ·intro j;exact D1 (na:=(0:Nat)) wR mixed (x5 j) (yR.cons (w7 (dI _)) yR.nil) (by decide)
  ·replace h:=ifF h6 h;cases h
 ·replace h:=ifF h3 h;replace h:=Option.some.inj h;subst h;exact⟨uG.toFin wR mixed func96 (by kernel_rfl) 3000 [.no,.call [] [] 0 (ab r1) (some false),.no] [] [] [] false (by kernel_rfl) (yR.cons (zJK h3) (yR.cons (fM (aA _ h2)) (yR.cons (w7 (dI ([]:yE))) yR.nil))) (by decide),⟨⟨trivial,trivial,⟨trivial,dT _⟩,trivial⟩,trivial⟩,(λ_ h=>nomatch h),dI _,(λ_ h=>nomatch h)⟩
theorem c96{c:Nat}{a:Tm}:Cz (e96 c a) 96 [] [yY a] (λr=>.sl (zC zY r) r.length .no) (λ_=>[]) 0:=λ_ h=>yBn h
def e68(b:Nat)(a:Tm)(c d:Int):Option (Bool):=dV b a>>=λr1=>if r1 then e95 b a 0>>=λr4=>if decide (r4>c)then some false else e96 b a>>=λr7=>if(r7.length:Int)==0 then some true else zV r7 (xF ((r7.length:Int)-1))>>=λx10=>some (decide (x10<d))else some false
theorem c68{b a c d}:Cz (e68 b a c d) 68 [] [yY a,ai c,ai d] (λr=>ab r) (λ_=>[]) 0:=fw func68<|rK 1 [] aA (λ_=>rC 2 [] c95 λ_=>rB 0 (fE 0)<|rC 1 [] c96 λ_=>rB 1 (fE 0)<|rA 2 (gQ (o:=.no)) λ_=>fE 2) λ_=>fE 1
def e69(c:Nat)(a:Tm):Option yE:=(dV c a)>>=λr1=>if r1=true then(e98 c a 8 8)>>=λr4=>if decide (List.length r4<4611686018427387904)=true then some (vG r4)else none else some []
theorem yBm{c:Nat}{a:Tm}{r:yE}(h:e69 c a=some r):CT prog 69 [] [yY a] (.sl (zC zY r) r.length .no) [] 0:=by
 unfold e69 at h;obtain⟨r1,h2,h⟩:=wP h;rcases s7 r1 with h3|h3
 ·replace h:=ifT h3 h;obtain⟨l,h5,h⟩:=wP h;rcases s7 (decide (List.length l<4611686018427387904))with h6|h6
  ·replace h:=ifT h6 h;replace h:=Option.some.inj h;subst h;subst h3;have hsz:List.length l<4611686018427387904:=by simpa using h6
   refine⟨?_,⟨⟨trivial,trivial,⟨trivial,dT _⟩,trivial⟩,trivial⟩,(λ_ h=>nomatch h),dI _,(λ_ h=>nomatch h)⟩;have k0:knd (tI f69)=1:=by kernel_rfl
   have k1:knd (uF (tI f69))=1:=by kernel_rfl
   have k2:knd (uF (uF (tI f69)))=1:=by kernel_rfl
   have k3:D6 (nY (uF (uF (tI f69))))=true:=by kernel_rfl
   have k4:zCZ (vC (nY (uF (uF (tI f69)))))[2]?=some (some 8,97,#[.tmp 7]):=by kernel_rfl
   have k5:(f97.name=="runtime.NumGoroutine")=false:=by kernel_rfl
   have k6:f97.body.isNone=false:=by kernel_rfl
   have x1:pK prog qJ 3000 (.run (nY (tI f69))) [] ([yY a]++List.replicate (f69.ntmps-1) (.val undef)) (aM []) []=some (.fin .normal,[yY a,.mp 0 0,.sl [] 0 .nl,.val undef,.val undef,.val undef,.val undef,.val undef,.val undef],⟨[(0,.cells (R8 a))],1,[],0,[]⟩,[],[]):=by kernel_rfl
   have x2:pK prog qJ 3000 (.run (nY (uF (tI f69)))) [] [yY a,.mp 0 0,.sl [] 0 .nl,.val undef,.val undef,.val undef,.val undef,.val undef,.val undef] ⟨[(0,.cells (R8 a))],1,[],0,[]⟩ [.no,.call [] [] 0 (ab true) (some true),.no]=some (.fin .normal,[yY a,.mp 0 0,.sl [] 0 .nl,yY a,ab true,ab false,.val undef,.val undef,.val undef],⟨[(0,.cells (R8 a))],1,[],0,[]⟩,[],[.bit true true,.call 93 [] [yY a] (ab true) [] 0]):=by kernel_rfl
   have x3:(bJ prog qJ (vC (nY (uF (uF (tI f69))))) ((vC (nY (uF (uF (tI f69))))).toList.take 2) 0 [yY a,.mp 0 0,.sl [] 0 .nl,yY a,ab true,ab false,.val undef,.val undef,.val undef] ⟨[(0,.cells (R8 a))],1,[],0,[]⟩ [.no,.call [] [] 1 (.sl (zC zY l) l.length (.st 0 1)) none]).map Prod.snd=some ([yY a,.mp 0 0,.sl [] 0 .nl,yY a,ab true,ab false,yY a,.sl (zC zY l) l.length (.st 0 1),.val undef],⟨[(0,.cells (R8 a))],1,[0],1,[]⟩,[],[.call 98 [] [yY a,ai 8,ai 8] (.sl (zC zY l) l.length (.st 0 1)) [] 1]):=by kernel_rfl
   have x4:∀j:Nat->Value,(bJ prog qJ (vC (nY (uF (uF (tI f69))))) ((vC (nY (uF (uF (tI f69))))).toList.drop 3) 3 (eset (tells [] (mutEnv [] j [yY a,.mp 0 0,.sl [] 0 .nl,yY a,ab true,ab false,yY a,.sl (zC zY l) l.length (.st 0 1),.val undef] 0)) (some 8) (.sl (zC zY (vG l)) (vG l).length .no)) (nZ [] ⟨[(0,.cells (R8 a))],1,[0],1,[]⟩) []).map Prod.snd=some ([.val (j 0),.val (j 1),.sl (zC zY (vG l)) (vG l).length .no,.val (j 3),ab true,ab false,.val (j 6),.val (j 7),.sl (zC zY (vG l)) (vG l).length .no],⟨[],1,[],0,[]⟩,[],[]):=λj=>by kernel_rfl
   have x5:∀j:Nat->Value,U4 prog qJ 0 f69 3000 (.run (uF (uF (uF (tI f69))))) [] [.val (j 0),.val (j 1),.sl (zC zY (vG l)) (vG l).length .no,.val (j 3),ab true,ab false,.val (j 6),.val (j 7),.sl (zC zY (vG l)) (vG l).length .no] ⟨[],1,[],0,[]⟩ [] [] [] [] false=some (.sl (zC zY (vG l)) (vG l).length .no,[],[.data (zC zY (vG l))]):=λj=>by kernel_rfl
   refine uG.body func69 (by kernel_rfl) ?_;refine Dv.seqP k0 ?_;refine nD (Q:=_) wR mixed 3000 (.run (nY (tI f69))) [] _ _ _ _ _ _ _ _ x1 yR.nil ?_;refine Dv.seqP k1 ?_;refine nD (Q:=_) wR mixed 3000 (.run (nY (uF (tI f69)))) [] _ _ _ _ _ _ _ _ x2 (yR.cons (zJK rfl) (yR.cons (fM (aA _ h2)) yR.nil)) ?_;refine Dv.seqP k2 ?_;obtain⟨id,k7⟩:=zRY k3;rw[k7];refine Dv.mut wR (na:=(0:Nat)) rfl 2 [] [] _ x3 (yR.cons (fM (c98 _ h5)) yR.nil) k4 func97 k5 k6 (λi X h=>by cases h) ?_ x4 yR.nil ?_;·intro G0 W hB G w hE hR u hu;refine(zBB hR (by rfl) hsz hu).mono ?_;rintro e w'⟨v,b,S,z1,z2,z3,z4,z5,z6⟩;exact⟨v,b,S,z1,z2,z3,z4,z5,λG' _ _ hS=>⟨z6 G' hS,λq hq=>by cases hq⟩⟩
   ·intro j;exact D1 (na:=(0:Nat)) wR mixed (x5 j) (yR.cons (w7 (dI _)) yR.nil) (by decide)
  ·replace h:=ifF h6 h;cases h
 ·replace h:=ifF h3 h;replace h:=Option.some.inj h;subst h;exact⟨uG.toFin wR mixed func69 (by kernel_rfl) 3000 [.no,.call [] [] 0 (ab r1) (some false),.no] [] [] [] false (by kernel_rfl) (yR.cons (zJK h3) (yR.cons (fM (aA _ h2)) (yR.cons (w7 (dI ([]:yE))) yR.nil))) (by decide),⟨⟨trivial,trivial,⟨trivial,dT _⟩,trivial⟩,trivial⟩,(λ_ h=>nomatch h),dI _,(λ_ h=>nomatch h)⟩
theorem c69{c:Nat}{a:Tm}:Cz (e69 c a) 69 [] [yY a] (λr=>.sl (zC zY r) r.length .no) (λ_=>[]) 0:=λ_ h=>yBm h
theorem W5(a b:Int):kP a b=max a b:=by unfold kP;split<;>omega
theorem uD{k n:Int}{l:List Tm}(h:xZ (.mk k n l)=true):D3 (.mk k n l)=true/\pP l=true:=by rw[xZ]at h;simpa using h
theorem vI{t:Tm}{l:List Tm}(h:pP (t::l)=true):xZ t=true/\pP l=true:=by rw[pP]at h;simpa using h
theorem fY{k n:Int}{l:List Tm}(h:D3 (.mk k n l)=true):0<=n/\n<=1048576/\1<=k/\k<=8/\l.length<=2:=by have:=sY h;exact⟨this.2.2.1,this.2.2.2.1,this.1,this.2.1,this.2.2.2.2.1⟩
mutual theorem rE:∀t:Tm,xZ t=true->t.Ok|.mk k n l,h=>by have h1:=uD h;rw[Tm.Ok];exact⟨by have:=(fY h1.1).2.2.2.2;omega,zFt l h1.2⟩theorem zFt:∀l:List Tm,pP l=true->kQ l|[],_=>by rw[kQ];trivial|t::l,h=>by have:=vI h;rw[kQ];exact⟨rE t this.1,zFt l this.2⟩end
mutual theorem zSl:∀(t:Tm)(b:Int),0<=gN t b
 |.mk k n l,b=>by
  rw[gN];split;·omega
  ·exact zJW l k 0 b theorem zJW:∀(l:List Tm)(k:Int)(i:Nat)(b:Int),0<=K5 l k i b|[],k,i,b=>by rw[K5];omega|t::l,k,i,b=>by rw[K5];have:=zSl t (b+w6 k i);omega end
theorem zOQ(t:Tm)(i:Nat):zH (λq=>zSm q t (i:Int)) (w6 t.k i):=by
 refine zH.mk λq=>?_;simp only[zSm,w6];by_cases h1:i=1;·subst h1;simp;by_cases h3:t.k=3<;>by_cases h4:t.k=4<;>simp[h3,h4]
 ·have:¬((i:Int)=1):=by omega
  simp[h1,this]
theorem zSk(k:Int)(i:Nat):0<=w6 k i/\w6 k i<=1:=by unfold w6;split<;>omega
mutual theorem F1:∀(t:Tm)(b:Int),xZ t=true->0<=b->b+t.high<=4611686018427387904->zH (λq=>e95 q t b) (gN t b)
 |.mk k n l,b,hg,h0,h1=>by
  refine zH.succ ?_;simp only[e95,Tm.k,Tm.n];have hh:=uD hg;have hn:=fY hh.1;rw[gN];by_cases hk:k=1
  ·rw[if_pos hk];rw[Tm.high]at h1;refine zH.ifT (by simpa using hk) (zH.ret.eq ?_);rw[yQ (x:=n+1) (by omega) (by omega),yQ (by omega) (by omega),W5]
  ·rw[if_neg hk];refine zH.ifF (by simpa using hk) ?_;rw[Tm.high]at h1;exact(zBJ l (.mk k n l) 0 b 0 rfl (by have:=hn.2.2.2.2;simp only[Tm.sub];omega) hh.2 h0 (by omega) (by omega)).eq (by have:=zJW l k 0 b;simp only[Tm.k];omega)theorem zBJ:∀(l:List Tm)(p:Tm)(v:Nat)(b m:Int),p.sub.drop v=l->p.sub.length<9223372036854775808->pP l=true->0<=b->0<=m->b+1+pO l<=4611686018427387904->zH (λq=>L3 q p b (v:Int) m) (max m (K5 l p.k v b))|[],p,v,b,m,hd,hl,ho,h0,hm,h1=>by refine zH.succ ?_;simp only[L3];rw[K5];exact zH.ifF (yB hd) (zH.ret.eq (by omega))|t::l,p,v,b,m,hd,hl,ho,h0,hm,h1=>by refine zH.succ ?_;simp only[L3];have hg:=vI ho;have hu:=zSk p.k v;rw[pO]at h1;refine zH.ifT (yA hd) (zH.pure (zZ hd) ((zOQ p v).bind ?_));rw[yQ (x:=b+w6 p.k v) (by omega) (by omega)];refine(F1 t (b+w6 p.k v) hg.1 (by omega) (by omega)).bind ?_;rw[zW v (by have:=yF hd;omega),W5];refine(zBJ l p (v+1) b _ (zS hd) hl hg.2 h0 (by omega) (by omega)).eq ?_;rw[K5];omega end
mutual theorem nG:∀(t:Tm)(a b:Int),(rY t a b).length<=t.nodes|.mk k n l,a,b=>by rw[rY,Tm.nodes];have:=zFs l a b;split<;>simp<;>omega theorem zFs:∀(l:List Tm)(a b:Int),(D4 l a b).length<=xU l|[],a,b=>by rw[D4,xU];simp|t::l,a,b=>by rw[D4,xU];have:=nG t a b;have:=zFs l a b;simp;omega end
mutual theorem aY:∀(t:Tm)(a b:Int),t.Ok->t.nodes<=8192->zH (λq=>e98 q t a b) (rY t a b)
 |.mk k n l,a,b,ho,hn=>by
  refine zH.succ ?_;simp only[e98,Tm.k,Tm.n];rw[rY];rw[Tm.nodes]at hn;by_cases ha:k=a
  ·refine zH.ifT (by simpa using ha) (zH.pure (yG (by simp)) ?_);rw[if_pos (.inl ha)];exact kJ l (.mk k n l) 0 a b [n] rfl ho.1 ho.2 (by simp;omega)
  ·refine zH.ifF (by simpa using ha) ?_;by_cases hb:k=b;·refine zH.ifT (by simpa using hb) (zH.pure (yG (by simp)) ?_);rw[if_pos (.inr hb)];exact kJ l (.mk k n l) 0 a b [n] rfl ho.1 ho.2 (by simp;omega)
   ·refine zH.ifF (by simpa using hb) ?_;rw[if_neg (by simp[ha,hb])];exact kJ l (.mk k n l) 0 a b [] rfl ho.1 ho.2 (by simp;omega)theorem kJ:∀(l:List Tm)(p:Tm)(v:Nat)(a b:Int)(m:List Int),p.sub.drop v=l->p.sub.length<9223372036854775808->kQ l->m.length+xU l<=8192->zH (λq=>iN q p a b (v:Int) m) (m++D4 l a b)|[],p,v,a,b,m,hd,hl,ho,hn=>by refine zH.succ ?_;simp only[iN];rw[D4];exact zH.ifF (yB hd) (zH.ret.eq (by simp))|t::l,p,v,a,b,m,hd,hl,ho,hn=>by refine zH.succ ?_;simp only[iN];rw[xU]at hn;have hc:=nG t a b;refine zH.ifT (yA hd) (zH.pure (zZ hd) ((aY t a b ho.1 (by omega)).bind (zH.pure (yG (by omega)) ?_)));rw[zW v (by have:=yF hd;omega)];refine(kJ l p (v+1) a b _ (zS hd) hl ho.2 (by simp;omega)).eq ?_;rw[D4];simp end
theorem zM{t:Tm}(h:zF t=true):t.nodes<=8192/\t.high<=128/\xZ t=true:=by unfold zF at h;simp at h;exact⟨h.1.1,h.1.2,h.2⟩
def jH(t:Tm)(a b:Int):List Int:=if zF t=true then vG (rY t a b)else[]
theorem lJ(t:Tm)(ho:t.Ok):zH (λq=>e69 q t) (jH t 8 8):=by
 simp only[e69];refine(xI t ho).bind ?_;unfold jH;by_cases h:zF t=true;·have hs:=zM h;have:=nG t 8 8;rw[if_pos h];refine zH.ifT h ((aY t 8 8 ho hs.1).bind (zH.mk λq=>?_));rw[if_pos (by simp;omega)]
 ·rw[if_neg h];exact zH.ifF (by simpa using h) zH.ret
theorem zIy(t:Tm)(ho:t.Ok):zH (λq=>e96 q t) (jH t 6 7):=by
 simp only[e96];refine(xI t ho).bind ?_;unfold jH;by_cases h:zF t=true;·have hs:=zM h;have:=nG t 6 7;rw[if_pos h];refine zH.ifT h ((aY t 6 7 ho hs.1).bind (zH.mk λq=>?_));rw[if_pos (by simp;omega)]
 ·rw[if_neg h];exact zH.ifF (by simpa using h) zH.ret
theorem s9(x:Int):∀l:List Int,x∈uC l↔x∈l
 |[]=>by simp[uC]|[y]=>by simp[uC]|y::z::l=>by
  rw[oT];have:=s9 x (z::l);split;·subst_vars;rw[this];simp
  ·rw[List.mem_cons,this];simp
theorem pQ(x:Int)(l:List Int):x∈vG l↔x∈l:=by unfold vG;rw[s9];exact(lC l).mem_iff
theorem S4:∀l:List Int,l.Pairwise (·<=·)->(uC l).Pairwise (·<=·)
 |[],_=>by simp[uC]|[y],_=>by simp[uC]|y::z::l,h=>by
  rw[oT];have h2:=S4 (z::l) (List.pairwise_cons.1 h).2;split;·exact h2
  ·refine List.pairwise_cons.2 ⟨λw hw=>?_,h2⟩;exact(List.pairwise_cons.1 h).1 w ((s9 w _).1 hw)
theorem zFr(l:List Int):(vG l).Pairwise (·<=·):=S4 _ (iJ l)
theorem zFq:∀(l:List Int)(h:l≠[]),l.Pairwise (·<=·)->∀x∈l,x<=l.getLast h
 |[y],_,_,x,hx=>by simp at hx;simp[hx]|y::z::l,_,hp,x,hx=>by
  rw[List.getLast_cons (by simp)];have h2:=List.pairwise_cons.1 hp;rcases List.mem_cons.1 hx with rfl|hx;·exact h2.1 _ (List.getLast_mem _)
  ·exact zFq (z::l) (by simp) h2.2 x hx
def rQ(t:Tm)(f n:Int):Bool:=zF t&&decide (gN t 0<=f)&&(rY t 6 7).all λx=>decide (x<n)
theorem lK(t:Tm)(f n:Int)(ho:t.Ok):zH (λq=>e68 q t f n) (rQ t f n):=by
 simp only[e68];refine(xI t ho).bind ?_;unfold rQ;by_cases h:zF t=true
 ·have hs:=zM h;have hlen:=nG t 6 7;refine zH.ifT h ((F1 t 0 hs.2.2 (by omega) (by omega)).bind ?_);rw[h];by_cases h2:gN t 0>f;·exact zH.ifT (by simpa using h2) (zH.ret.eq (by simp;omega))
  ·refine zH.ifF (by simpa using h2) ((zIy t ho).bind ?_);have h2':decide (gN t 0<=f)=true:=by simp;omega
   rw[h2'];unfold jH;rw[if_pos h];have hr:=nN (rY t 6 7);by_cases h3:vG (rY t 6 7)=[]
   ·refine zH.ifT (by rw[h3];rfl) (zH.ret.eq ?_);symm;simp only[Bool.true_and,List.all_eq_true];intro x hx;rw[<-pQ,h3]at hx;cases hx
   ·have hpos:0<(vG (rY t 6 7)).length:=List.length_pos_iff.2 h3;refine zH.ifF (by simp;omega) (zH.pure (a:=(vG (rY t 6 7)).getLast h3) ?_ (zH.ret.eq ?_))
    ·rw[yQ (by omega) (by omega)];unfold zV;rw[if_pos (by omega),List.getLast_eq_getElem,show((vG (rY t 6 7)).length-1:Int).toNat=(vG (rY t 6 7)).length-1 by omega];exact List.getElem?_eq_getElem _
    ·have hm:=zFq _ h3 (zFr _);rw[Bool.eq_iff_iff];simp only[decide_eq_true_eq,Bool.true_and,List.all_eq_true];constructor
     ·intro h4 x hx;have:=hm x ((pQ x _).2 hx);omega
     ·intro h4;exact h4 _ ((pQ _ _).1 (List.getLast_mem h3))
 ·exact zH.ifF (by simpa using h) (zH.ret.eq (by simp[h]))
def sF:Nat->yV->Int->Int->yV->Option yV|0,_,_,_,_=>none|f+1,e,g,m,d=>if decide (g<m)then pX e.length m>>=λx2=>zV d (x2:Int)>>=λx4=>pX e.length g>>=λx6=>zV d (x6:Int)>>=λx8=>kR d x6 x4>>=λx10=>kR x10 x2 x8>>=λx12=>sF f e (xF (g+1)) (xF (m-1)) x12 else some d
def lL(f:Nat)(e:yV):Option yV:=sF f e 0 (xF ((e.length:Int)-1)) e
theorem zFp:∀f:Nat,∀e g m d,Lz (sF f e g m d) 1 f141 (pt 53 f141) (λj=>sp j 28 0 [(0,.ms 0 0 e.length e.length 3),(2,ai g),(3,ai m)]) ⟨[(0,.row (zC zA d))],1,[],0,[]⟩ (λ_=>.tup []) (λr=>[.row (zC zA r)]) 0 [.blk 0]:=wF (λ_ _ _ _=>lN) λf ih=>λe g m d=>lw λ_=>rB 0 (rH λ_ h3=>rS (oA 0 (zBI (b:=0) (c:=List.length e) (z:=3) h3))<|rH λx4 h5=>rS (oG (a:=(.agg [ai x4.k,ai x4.n,zP zA x4.sub .no])) 0 (ldE uX h5 (true,3) (val:=.agg [ai x4.k,ai x4.n,zP zA x4.sub .no]) (by rw[wC];rfl)))<|rH λ_ h7=>rS (oA 0 (zBI (b:=0) (c:=List.length e) (z:=3) h7))<|rH λx8 h9=>rS (oG (a:=(.agg [ai x8.k,ai x8.n,zP zA x8.sub .no])) 0 (ldE uX h9 (true,3) (val:=.agg [ai x8.k,ai x8.n,zP zA x8.sub .no]) (by rw[wC];rfl)))<|rS (oA 0 (zBI (b:=0) (c:=List.length e) (z:=3) h7))<|rW (λh11=>oW 0 (wtE (x:=x4) (cs:=[ai x4.k,ai x4.n,zP zA x4.sub .no]) uX (by rw[wC];rfl) h11)) λ_=>rS (oA 0 (zBI (b:=0) (c:=List.length e) (z:=3) h3))<|rW (λh13=>oW 0 (wtE (x:=x8) (cs:=[ai x8.k,ai x8.n,zP zA x8.sub .no]) uX (by rw[wC];rfl) h13)) λ_=>lH 2 [] [0] [] [0,2,3] (ih _ _ _ _))<|lE 0
theorem p6{f e}:Cz (lL f e) 141 [.row (zC zA e)] [.ms 0 0 e.length e.length 3] (λ_=>.tup []) (λr=>[.row (zC zA r)]) 0:=fw func141<|fH 2 [] [0] [] [0,2,3] (zFp _ _ _ _ _)
def tJ:Nat->Tm->yV->Int->Int->yV->Option ((Tm×yV)⊕(yV×Tm))|0,_,_,_,_,_=>none|f+1,d,a,c,e,b=>if c==5 then if(b.length:Int)==2 then if decide ((a.length:Int)>=8192)then some (Sum.inl (d,[]))else zV b 1>>=λx4=>yZ 40 a [x4]>>=λl6=>zV b 0>>=λx8=>tJ f d l6 x8.k x8.n x8.sub else lL f a>>=λr10=>E1 a.length r10>>=λl12=>some (Sum.inr (l12,(Tm.mk c e b)))else lL f a>>=λr14=>E1 a.length r14>>=λl16=>some (Sum.inr (l16,(Tm.mk c e b)))
def aZ(f:Nat)(d:Tm):Option ((Tm×yV)⊕(yV×Tm)):=tJ f d ([]:yV) d.k d.n d.sub
def p7(j:Nat->Value)(d:Tm)(a:yV)(c e:Int)(b:yV):=sp j 35 0 [(1,.mp 0 0),(2,.mp 1 0),(4,.ms 2 0 a.length a.length 3),(5,.mp 3 0)]
def p9(d:Tm)(a:yV)(c e:Int)(b:yV):yW:=⟨[(0,.cells [ai d.k,ai d.n,zP zA d.sub .no]),(1,.cells [ai 0,ai 0,.ms 4 0 (List.length ([]:yV)) (List.length ([]:yV)) 3]),(2,.row (zC zA a)),(3,.cells [ai c,ai e,zP zA b .no]),(4,.row (zC zA ([]:yV)))],5,[],0,[]⟩
abbrev o5(d:Tm)(r:Tm×yV)(C:Cf):Prop:=C 120 [] [yY d] (.tup [yY r.1,.sl (zC zA r.2) r.2.length .no]) [] 0
abbrev o6(d:Tm)(r:yV×Tm)(C:Cf):Prop:=C 120 [] [yY d] (.tup [yY r.2,.ms 0 0 r.1.length r.1.length 3]) [.row (zC zA r.1)] 0
theorem zOR:Qf 120 f120:=⟨func120,by kernel_rfl⟩
theorem zOS{d r}(h:o5 d r Ci):o5 d r Ct:=⟨h,⟨⟨tv,tv,⟨tv,dT _⟩,tv⟩,tv⟩,yO,⟨⟨tv,tv,dT _,tv⟩,dT _,tv⟩,yO⟩
theorem zOT{d r}(h:o6 d r Ci):o6 d r Ct:=⟨h,⟨⟨tv,tv,⟨tv,dT _⟩,tv⟩,tv⟩,yO,⟨⟨tv,tv,dT _,tv⟩,(lz rfl),tv⟩,(yJ (dT _) yO)⟩
theorem F2:∀f:Nat,(∀d a c e b r,tJ f d a c e b=some r->(∀j,Dl prog 0 (pt 4069 f120) (p7 j d a c e b) (p9 d a c e b) (vA prog 0 ((match(generalizing:=false)r with|Sum.inl x=>oO prog 0 f120 (.tup [yY x.1,.sl (zC zA x.2) x.2.length .no]) [] 0|Sum.inr x=>oO prog 0 f120 (.tup [yY x.2,.ms 0 0 x.1.length x.1.length 3]) [.row (zC zA x.1)] 0)) [.blk 0,.seq (pt 255 f120)]))):=by intro f;induction f with|zero=>exactλ_ _ _ _ _ _ h=>nn h|succ f ih=>
 intro d a c e b r h;rw[tJ]at h;rcases W4 h with⟨h1,h⟩|⟨h1,h⟩;have k:=oB 1 h1 o0;rcases W4 h with⟨h2,h⟩|⟨h2,h⟩;have k:=oB 2 h2 k;rcases W4 h with⟨h3,h⟩|⟨h3,h⟩;obtain rfl:=sj h;exactλj=>olF 2 [] (oD (dT ([]:yV))<|oD (dT d.sub)<|oB 1 h3 k);obtain⟨x4,h5,h⟩:=wP h;obtain⟨l6,h7,h⟩:=wP h;obtain⟨x8,h9,h⟩:=wP h;exactλj=>olH 2 [] [0,1,5,3,4] [] [1,2,4,5] (oD (dT ([]:yV))<|oD (dT x8.sub)<|oD (dT l6)<|oD (dT d.sub)<|oA 1 (wE (o:=.no) h9)<|oM 0 (zYV h7 (by simp))<|oS 1 (xR wC [x4])<|oA 1 (wE (o:=.no) h5)<|oB 1 h3 k) (ih _ _ _ _ _ _ h);obtain⟨r10,h11,h⟩:=wP h;obtain⟨l12,h13,h⟩:=wP h;obtain⟨h13a,h13b⟩:=sU h13;obtain rfl:=sj h;obtain rfl:=h13a.symm;try dsimp only
 rw[<-h13b];exactλj=>olF 2 [2] (oD (dT b)<|oD (dT r10)<|oC 0 [2] (p6 _ h11)<|oB 2 h2 k);obtain⟨r14,h15,h⟩:=wP h;obtain⟨l16,h17,h⟩:=wP h;obtain⟨h17a,h17b⟩:=sU h17;obtain rfl:=sj h;obtain rfl:=h17a.symm;try dsimp only
 rw[<-h17b];exactλj=>olF 2 [2] (oD (dT b)<|oD (dT r14)<|oC 0 [2] (p6 _ h15)<|oB 1 h1 o0)
theorem zSj{f d r}(h:aZ f d=some r):(match(generalizing:=false)r with|Sum.inl x=>o5 d x Ct|Sum.inr x=>o6 d x Ct):=by unfold aZ at h;rcases r with y0|y1;exact zOS (tH zOR 2 [(none,4,4099),(some 1,2,4099)] [0,1,3,2,4] [] [1,2,4,5] (oD (dT ([]:yV))<|oD (dT d.sub)<|oD (dT ([]:yV))<|oD (dT d.sub) o0) (F2 _ _ _ _ _ _ _ h));exact zOT (tH zOR 2 [(none,4,4099),(some 1,2,4099)] [0,1,3,2,4] [] [1,2,4,5] (oD (dT ([]:yV))<|oD (dT d.sub)<|oD (dT ([]:yV))<|oD (dT d.sub) o0) (F2 _ _ _ _ _ _ _ h))
theorem zSi{f d r}(h:aZ f d=some r):(match(generalizing:=false)r with|Sum.inl x=>CT prog 120 [] [yY d] (.tup [yY x.1,.sl (zC zA x.2) x.2.length .no]) [] 0|Sum.inr x=>CT prog 120 [] [yY d] (.tup [yY x.2,.sl (zC zA x.1) x.1.length .no]) [] 0):=by
 have k:=zSj h;rcases r with y0|y1;·exact k
 ·exact CT.freeze (H1:=[]) (cs:=zC zA y1.1) (res':=(.tup [yY y1.2,.sl (zC zA y1.1) y1.1.length .no])) k (Nat.le_of_ble_eq_true rfl) yO (dT _) ⟨⟨trivial,trivial,dT _,tv⟩,(.inl ⟨rfl,rfl⟩),tv⟩ (by rfl) rfl
theorem zWu{f d}:Cz (aZ f d) 120 [] [yY d] (Sum.elim (λx=>.tup [yY x.1,.sl (zC zA x.2) x.2.length .no]) (λx=>.tup [yY x.2,.sl (zC zA x.1) x.1.length .no])) (Sum.elim (λ_=>[]) (λ_=>[])) 0:=λr h=>by have k:=zSi h;rcases r with _|_<;>exact k
def A0(b:Nat)(a:Tm):Option (Tm×yV):=aZ b a>>=λx=>some (Sum.elim id (λy=>(y.2,y.1)) x)
theorem zZn{b:Nat}{a:Tm}{r:Tm×yV}(h:A0 b a=some r):CT prog 120 [] [yY a] (.tup [yY r.1,.sl (zC zA r.2) r.2.length .no]) [] 0:=by obtain⟨x,h1,h⟩:=wP h;obtain rfl:=sj h;rcases x with y|y<;>exact zWu _ h1
theorem zFo{b:Nat}{a:Tm}:Cz (A0 b a) 120 [] [yY a] (λr=>.tup [yY r.1,.sl (zC zA r.2) r.2.length .no]) (λ_=>[]) 0:=λ_ h=>zZn h
def zFn(d:Nat)(a b:Int)(c:yV):Option (Tm):=some (Tm.mk a b c)
theorem zIx{d a b c}:Cz (zFn d a b c) 112 [] [ai a,ai b,zP zA c .no] (λr=>yY r) (λ_=>[]) 0:=fw func112<|fE 1
def zBw(c:Nat)(a b:Tm):Option (Tm):=zFn c 5 0 [a,b]>>=λr1=>some r1
theorem zBv{c a b}:Cz (zBw c a b) 230 [] [yY a,yY b] (λr=>yY r) (λ_=>[]) 0:=fw func230<|rS (oS 2 (xR wC [a,b]))<|rC 0 [] zIx λ_=>fE 1
def dW:Nat->yV->Int->Int->Int->yV->Option (Tm)|0,_,_,_,_,_=>none|e+1,d,f,a,b,c=>if decide (f<(d.length:Int))then zV d f>>=λx2=>zBw e (Tm.mk a b c) x2>>=λr4=>dW e d (xF (f+1)) r4.k r4.n r4.sub else some (Tm.mk a b c)
def bL(e:Nat)(g:Tm)(d:yV):Option (Tm):=dW e d 0 g.k g.n g.sub
theorem zSh:∀e:Nat,∀d f a b c,Lz (dW e d f a b c) 0 f211 (pt 949 f211) (λj=>sp j 18 0 [(2,.mp 0 0),(4,.mp 1 0),(7,zP zA d .no),(8,ai (d.length:Int)),(9,ai f)]) ⟨[(0,.cells [ai a,ai b,zP zA c .no]),(1,.cells [ai 0,ai 0,zP zA ([]:yV) .nl])],2,[],0,[]⟩ (λr=>yY r) (λ_=>[]) 0 [.blk 0,.seq (pt 15 f211)]:=wF (λ_ _ _ _ _=>lN) λe ih=>λd f a b c=>lw λ_=>rB 0 (rA 0 (wE (o:=.no)) λ_=>rC 4 [] zBv λ_=>lH 2 [] [0,1] [] [2,4,7,8,9] (ih _ _ _ _ _))<|lE 2
theorem U5{e g d}:Cz (bL e g d) 211 [] [yY g,zP zA d .no] (λr=>yY r) (λ_=>[]) 0:=fw func211<|fH 1 [] [0,1] [] [2,4,7,8,9] (zSh _ _ _ _ _ _)
mutual def e94:Nat->Tm->Option (Tm)|0,_=>none|d+1,b=>L4 d b 0 []def L4:Nat->Tm->Int->yV->Option (Tm)|0,_,_,_=>none|d+1,b,c,a=>if decide (c<(b.sub.length:Int))then zV b.sub c>>=λx2=>e94 d x2>>=λr4=>yZ 40 a [r4]>>=λl6=>L4 d b (xF (c+1)) l6 else some (Tm.mk b.k b.n a)end
theorem zMt:∀d:Nat,(∀b,Cz (e94 d b) 94 [] [yY b] (λr=>yY r) (λ_=>[]) 0)/\(∀b c a,Lz (L4 d b c a) 0 f94 (pt 4021 f94) (λj=>sp j 27 0 [(2,.mp 0 0),(3,.mp 1 0),(12,zP zA b.sub .no),(13,ai (b.sub.length:Int)),(14,ai c)]) ⟨[(0,.cells [ai 0,ai 0,zP zA ([]:yV) .nl]),(1,.cells [ai b.k,ai b.n,zP zA a (.st 0 3)])],2,[0],1,[]⟩ (λr=>yY r) (λ_=>[]) 0 [.blk 0,.seq (pt 63 f94)]):=wF ⟨λ_=>cN,λ_ _ _=>lN⟩ λd ih=>⟨λb=>fw func94<|fH 5 [(some 2,2,3)] [1,2] [0] [2,3,12,13,14] (ih.2 _ _ _),λb c a=>lw λ_=>rB 0 (rA 0 (wE (o:=.no)) λ_=>rS (gP 2)<|rC 1 [] (ih.1 _) λr4=>rS (oS 0 (xR wC [r4]))<|rW (λh7=>oP 0 (vZ h7 (by simp))) λ_=>lH 2 [] [0,1] [1] [2,3,12,13,14] (ih.2 _ _ _))<|lE 2⟩
theorem c94{d b}:Cz (e94 d b) 94 [] [yY b] (λr=>yY r) (λ_=>[]) 0:=(zMt _).1 _
def e64(b:Nat)(a:Tm):Option (Tm):=dV b a>>=λr1=>if r1 then e94 b a>>=λr4=>some r4 else some (Tm.mk 0 0 [])
theorem c64{b a}:Cz (e64 b a) 64 [] [yY a] (λr=>yY r) (λ_=>[]) 0:=fw func64<|rK 1 [] aA (λ_=>rC 2 [] c94 λ_=>fE 1) λ_=>fE 2
theorem rD(t:Tm):Tm.mk t.k t.n t.sub=t:=by cases t;rfl
theorem o7{α:Type}{l:List α}{v:Nat}{x:α}{r:List α}(h:l.drop v=x::r):l.take (v+1)=l.take v++[x]:=by
 have:l[v]?=some x:=by have:=congrArg (λz=>z[0]?) h;simpa using this
 rw[List.take_add_one,this];rfl
mutual theorem zBK:∀(t:Tm),xZ t=true->zH (λq=>e94 q t) t|.mk k n l,hg=>by refine zH.succ ?_;simp only[e94];have hh:=uD hg;exact o8 l (.mk k n l) 0 [] rfl hh.2 (by have:=(fY hh.1).2.2.2.2;exact this) rfl theorem o8:∀(l:List Tm)(p:Tm)(v:Nat)(acc:List Tm),p.sub.drop v=l->pP l=true->p.sub.length<=2->acc=p.sub.take v->zH (λq=>L4 q p (v:Int) acc) p|[],p,v,acc,hd,hg,hl,ha=>by refine zH.succ ?_;simp only[L4];refine zH.ifF (yB hd) (zH.ret.eq ?_);have:p.sub.length<=v:=List.drop_eq_nil_iff.1 hd;rw[ha,List.take_of_length_le this,rD]|t::l,p,v,acc,hd,hg,hl,ha=>by have hlt:=yF hd;have hc:=vI hg;refine zH.succ ?_;simp only[L4];refine zH.ifT (yA hd) (zH.pure (zZ hd) ((zBK t hc.1).bind (zH.pure (yG (by rw[ha];simp<;>omega)) ?_)));rw[zW v (by omega)];exact o8 l p (v+1) _ (zS hd) hc.2 hl (by rw[ha,o7 hd])end
def nO(t:Tm):Tm:=if zF t=true then t else .mk 0 0 []
theorem tU(t:Tm)(ho:t.Ok):zH (λq=>e64 q t) (nO t):=by
 simp only[e64];refine(xI t ho).bind ?_;unfold nO;by_cases h:zF t=true;·rw[if_pos h];exact zH.ifT h ((zBK t (zM h).2.2).bind zH.ret)
 ·rw[if_neg h];exact zH.ifF (by simpa using h) zH.ret
def yN:Tm->Tm|.mk k n [a,b]=>if k=5 then yN a else .mk k n [a,b]|x=>x
def xD:Tm->List Tm|.mk k _ [a,b]=>if k=5 then xD a++[b]else[]|_=>[]
theorem zSg{l:List Tm}(h:l.length=2):∃a b,l=[a,b]:=by rcases l with _|⟨a,_|⟨b,_|⟨c,l⟩⟩⟩<;>simp at h;exact⟨a,b,rfl⟩
theorem F3(n:Int)(a b:Tm):yN (.mk 5 n [a,b])=yN a:=by rw[yN];simp
theorem dX(n:Int)(a b:Tm):xD (.mk 5 n [a,b])=xD a++[b]:=by rw[xD];simp
theorem dY{t:Tm}(h:t.k≠5):yN t=t:=by
 unfold yN;split;·exact if_neg h
 ·rfl
theorem iO{t:Tm}(h:t.k≠5):xD t=[]:=by
 unfold xD;split;·exact if_neg h
 ·rfl
theorem dZ{P:Tm->Prop}(h0:∀t,xZ t=true->t.k≠5->P t)(h1:∀n a b,xZ (.mk 5 n [a,b])=true->xZ a=true->xZ b=true->P a->P (.mk 5 n [a,b])):∀t:Tm,xZ t=true->P t:=by intro t;induction hn:t.nodes using Nat.strongRecOn generalizing t with|ind m ih=>
 intro hg;by_cases h:t.k=5
 ·obtain⟨k,n,l⟩:=t;have hh:=uD hg;have hs:=sY hh.1;simp only[Tm.k]at h;subst h;obtain⟨a,b,rfl⟩:=zSg (hs.2.2.2.2.2.1 (.inr (.inr rfl))).1;have hc:=vI hh.2;have hc2:=vI hc.2;refine h1 n a b hg hc.1 hc2.1 (ih a.nodes ?_ a rfl hc.1);rw[Tm.nodes,xU]at hn;omega
 ·exact h0 t hg h
theorem zSf(l:List Tm)(hl:l.length<=1048576):∀(m i:Nat)(acc:List Tm),2*i+m=l.length->acc.length=l.length->(∀p,p<l.length->acc[p]?=if p<i\/l.length<p+i+1 then l[l.length-1-p]? else l[p]?)->zH (λq=>sF q l (i:Int) ((l.length:Int)-1-i) acc) l.reverse:=by
 have fin:∀(i:Nat)(acc:List Tm),(∀p,p<l.length->p<i\/l.length<p+i+1\/l.length=2*p+1)->acc.length=l.length->(∀p,p<l.length->acc[p]?=if p<i\/l.length<p+i+1 then l[l.length-1-p]? else l[p]?)->acc=l.reverse:=λi acc h0 h1 h2=>by
  refine List.ext_getElem? λp=>?_;by_cases hp:p<l.length
  ·rw[h2 p hp,List.getElem?_reverse hp];by_cases h:p<i\/l.length<p+i+1;·rw[if_pos h]
   ·rw[if_neg h];have:=h0 p hp;rw[show l.length-1-p=p by omega]
  ·rw[List.getElem?_eq_none (by omega),List.getElem?_eq_none (by simp;omega)]
 intro m;induction m using Nat.strongRecOn with|ind m ih=>
  intro i acc hm ha hI;refine zH.succ ?_;simp only[sF];by_cases hm2:m<2;·exact zH.ifF (decide_eq_false (by omega)) (zH.ret.eq (fin i acc (λp hp=>by omega) ha hI))
  ·have g1:pX l.length ((l.length:Int)-1-i)=some (l.length-1-i):=by unfold pX;rw[if_pos (by omega)];congr 1;omega
   have g2:pX l.length (i:Int)=some i:=by unfold pX;rw[if_pos (by omega)];congr 1
   obtain⟨x,hx⟩:∃x,zV acc ((l.length-1-i:Nat):Int)=some x:=⟨acc[l.length-1-i]'(by omega),by unfold zV;rw[if_pos (by omega)];simp⟩;obtain⟨y,hy⟩:∃y,zV acc (i:Int)=some y:=⟨acc[i]'(by omega),by unfold zV;rw[if_pos (by omega)];simp⟩;have ex:acc[l.length-1-i]?=some x:=by have:=(mU hx).2.2;simpa using this
   have ey:acc[i]?=some y:=by have:=(mU hy).2.2;simpa using this
   rw[hI _ (by omega),if_neg (by omega)]at ex ey;refine zH.ifT (decide_eq_true (by omega)) (zH.pure g1 (zH.pure hx (zH.pure g2 (zH.pure hy (zH.pure (a:=acc.set i x) (by unfold kR;rw[if_pos (by omega)]) (zH.pure (a:=(acc.set i x).set (l.length-1-i) y) (by unfold kR;rw[if_pos (by simp;omega)]) ?_))))));rw[zW i (by omega),yQ (by omega) (by omega),show(l.length:Int)-1-i-1=(l.length:Int)-1-((i+1:Nat):Int)by omega];refine ih (m-2) (by omega) (i+1) _ (by omega) (by simp[ha]) λp hp=>?_;rw[List.getElem?_set,List.getElem?_set];by_cases h1:l.length-1-i=p;·rw[if_pos h1,if_pos (by simp;omega),if_pos (by omega),show l.length-1-p=i by omega,ey]
   ·rw[if_neg h1];by_cases h2:i=p;·rw[if_pos h2,if_pos (by omega),if_pos (by omega),show l.length-1-p=l.length-1-i by omega,ex]
    ·rw[if_neg h2,hI p hp];by_cases h3:p<i\/l.length<p+i+1;·rw[if_pos h3,if_pos (by omega)]
     ·rw[if_neg h3,if_neg (by omega)]
theorem zOU(l:List Tm)(hl:l.length<=1048576):zH (λq=>lL q l) l.reverse:=by
 simp only[lL];rw[yQ (by omega) (by omega)];have:=zSf l hl l.length 0 l (by omega) rfl λp hp=>by rw[if_neg (by omega)]
 simpa using this
theorem zMs(p0:Tm):∀t:Tm,xZ t=true->∀l:List Tm,l.length+t.nodes<=8192->zH (λq=>tJ q p0 l t.k t.n t.sub) (.inr (xD t++l.reverse,yN t)):=by
 refine dZ ?_ ?_
 ·intro t hg hk l hl;rw[dY hk,iO hk];refine zH.succ ?_;simp only[tJ];refine zH.ifF (by simpa using hk) ((zOU l (by omega)).bind (zH.pure (a:=l.reverse) (by unfold E1;rw[if_pos (by simp)]) (zH.ret.eq ?_)));rw[rD];simp
 ·intro n a b hg ha hb ih l hl;rw[Tm.nodes,xU,xU,xU]at hl;rw[F3,dX];refine zH.succ ?_;simp only[tJ];refine zH.ifT rfl (zH.ifT rfl (zH.ifF (decide_eq_false (by omega)) (zH.pure (a:=b) rfl (zH.pure (yG (by simp;omega)) (zH.pure (a:=a) rfl ((ih (l++[b]) (by simp;omega)).eq ?_))))));simp
theorem lM(t:Tm)(hs:zF t=true):zH (λq=>A0 q t) (yN t,xD t):=by have h:=zM hs;simp only[A0,aZ];refine(zMs t t h.2.2 [] (by simpa using h.1)).bind (zH.ret.eq ?_);simp
theorem W6:∀t:Tm,xZ t=true->xZ (yN t)=true/\(yN t).k≠5/\(yN t).nodes<=t.nodes/\(yN t).high<=t.high/\∀x∈xD t,xZ x=true/\x.nodes<t.nodes/\x.high<t.high:=by
 refine dZ ?_ ?_
 ·intro t hg hk;rw[dY hk,iO hk];exact⟨hg,hk,Nat.le_refl _,Nat.le_refl _,λx hx=>by cases hx⟩
 ·intro n a b hg ha hb ih;rw[F3,dX];simp only[Tm.nodes,xU,Tm.high,pO];refine⟨ih.1,ih.2.1,by omega,by omega,λx hx=>?_⟩;rcases List.mem_append.1 hx with hx|hx;·have:=ih.2.2.2.2 x hx;exact⟨this.1,by omega,by omega⟩
  ·simp at hx;subst hx;exact⟨hb,by omega,by omega⟩
theorem iP{t:Tm}(h1:t.nodes<=8192)(h2:t.high<=128)(h3:xZ t=true):zF t=true:=by unfold zF;simp[h1,h2,h3]
theorem xL{t x:Tm}(h:zF t=true)(hx:x∈xD t):zF x=true:=by have hs:=zM h;have:=(W6 t hs.2.2).2.2.2.2 x hx;exact iP (by omega) (by omega) this.1
theorem tZ{t:Tm}(h:zF t=true):zF (yN t)=true:=by have hs:=zM h;have:=W6 t hs.2.2;exact iP (by omega) (by omega) this.1
theorem tS:∀t:Tm,xZ t=true->(xD t).length<t.nodes:=by
 refine dZ ?_ ?_;·intro t hg hk;rw[iO hk];have:=sX t;simp;omega
 ·intro n a b hg ha hb ih;rw[dX,Tm.nodes,xU,xU,xU];simp;omega
def nP(f:Tm):List Tm->Tm|[]=>f|a::l=>nP (.mk 5 0 [f,a]) l
theorem L5(f a:Tm):zH (λq=>zBw q f a) (.mk 5 0 [f,a]):=zH.mk λ_=>rfl
theorem zBL:∀(l p:List Tm)(v:Nat)(f:Tm),p.drop v=l->p.length<9223372036854775808->zH (λq=>dW q p (v:Int) f.k f.n f.sub) (nP f l)|[],p,v,f,hd,hl=>by refine zH.succ ?_;simp only[dW];exact zH.ifF (yB hd) (zH.ret.eq (by rw[rD,nP]))|a::l,p,v,f,hd,hl=>by have hlt:=yF hd;refine zH.succ ?_;simp only[dW];rw[rD];refine zH.ifT (yA hd) (zH.pure (zZ hd) ((L5 f a).bind ?_));rw[zW v (by omega),nP];exact zBL l p (v+1) (.mk 5 0 [f,a]) (zS hd) hl
theorem qL(f:Tm)(l:List Tm)(h:l.length<9223372036854775808):zH (λq=>bL q f l) (nP f l):=by simp only[bL];exact zBL l l 0 f rfl h
theorem mC:∀(l:List Tm)(f:Tm),f.Ok->(∀x∈l,x.Ok)->(nP f l).Ok|[],f,hf,_=>by rw[nP];exact hf|a::l,f,hf,hl=>by rw[nP];refine mC l _ ?_ λx hx=>hl x (by simp[hx]);rw[Tm.Ok,kQ,kQ,kQ];exact⟨by simp,hf,hl a (by simp),trivial⟩
def zFl(b:Nat)(a:Int):Option (Tm):=zFn b 1 a []>>=λr1=>some r1
theorem zMr{b a}:Cz (zFl b a) 140 [] [ai a] (λr=>yY r) (λ_=>[]) 0:=fw func140<|rC 0 [] zIx λ_=>fE 1
def zDo(b:Nat)(a:Int):Option (Tm):=zFn b 2 a []>>=λr1=>some r1
theorem zIw{b a}:Cz (zDo b a) 182 [] [ai a] (λr=>yY r) (λ_=>[]) 0:=fw func182<|rC 0 [] zIx λ_=>fE 1
def zOV(b:Nat)(a:Int):Option (Bool):=if decide (a>=0)then some (decide (a<=1048576))else some false
theorem zZm{b a}:Cz (zOV b a) 222 [] [ai a] (λr=>ab r) (λ_=>[]) 0:=fw func222<|rB 0 (fE 1)<|fE 0
def o9(d:Nat)(a b c:Int):Option (Int):=if decide (a<b)then some a else some (xF (a+c))
theorem zOW{d a b c}:Cz (o9 d a b c) 224 [.cells [ai b],.cells [ai c]] [ai a,.mp 0 0,.mp 1 0] (λr=>ai r) (λ_=>[.cells [ai b],.cells [ai c]]) 0:=fw func224<|rB 1 (fE 0)<|fE 2
mutual def nR:Nat->Tm->Int->Int->Int->Option (Tm)|0,_,_,_,_=>none|g+1,b,e,c,d=>if b.k==1 then if decide (b.n>=e)then o9 g (xF (b.n-e)) c d>>=λr3=>zFl g (xF (r3+e))>>=λr5=>some r5 else zFl g b.n>>=λr7=>some r7 else tK g b e c d 0 []def tK:Nat->Tm->Int->Int->Int->Int->yV->Option (Tm)
 |0,_,_,_,_,_,_=>none|g+1,b,e,c,d,f,a=>if decide (f<(b.sub.length:Int))then zV b.sub f>>=λx10=>if f==1 then if b.k !=5 then nR g x10 (xF (e+1)) c d>>=λr14=>yZ 40 a [r14]>>=λl16=>tK g b e c d (xF (f+1)) l16 else nR g x10 e c d>>=λr18=>yZ 40 a [r18]>>=λl20=>tK g b e c d (xF (f+1)) l20 else nR g x10 e c d>>=λr22=>yZ 40 a [r22]>>=λl24=>tK g b e c d (xF (f+1)) l24 else some (Tm.mk b.k b.n a)end
theorem bN:∀g:Nat,(∀b e c d,Cz (nR g b e c d) 223 [.cells [ai c],.cells [ai d]] [yY b,ai e,.clo 224 [] [.mp 0 0,.mp 1 0]] (λr=>yY r) (λ_=>[.cells [ai c],.cells [ai d]]) 0)/\(∀b e c d f a,Lz (tK g b e c d f a) 2 f223 (pt 16309 f223) (λj=>sp j 64 0 [(1,ai e),(2,.clo 224 [] [.mp 0 0,.mp 1 0]),(3,.mp 2 0),(6,.mp 3 0),(7,.mp 4 0),(36,zP zA b.sub .no),(37,ai (b.sub.length:Int)),(38,ai f)]) ⟨[(0,.cells [ai c]),(1,.cells [ai d]),(2,.cells [ai b.k,ai b.n,zP zA b.sub .no]),(3,.cells [ai 0,ai 0,zP zA ([]:yV) .nl]),(4,.cells [ai b.k,ai b.n,zP zA a (.st 0 3)])],5,[0],1,[]⟩ (λr=>yY r) (λ_=>[.cells [ai c],.cells [ai d]]) 0 [.blk 0,.seq (pt 255 f223)]):=wF ⟨λ_ _ _ _=>cN,λ_ _ _ _ _ _=>lN⟩ λg ih=>⟨λb e c d=>fw func223<|rB 1 (rB 1 (rC 2 [0,1] zOW λ_=>rC 1 [] zMr λ_=>fE 1)<|rC 1 [] zMr λ_=>fE 1)<|fH 5 [(some 4,2,3)] [0,1,2,3,4] [0] [1,2,3,6,7,36,37,38] (ih.2 _ _ _ _ _ _),λb e c d f a=>lw λ_=>rB 0 (rA 0 (wE (o:=.no)) λ_=>rB 2 (rB 1 (rS (gP 1)<|rC 1 [0,1] (ih.1 _ _ _ _) λr14=>rS (oS 0 (xR wC [r14]))<|rW (λh17=>oP 0 (vZ h17 (by simp))) λ_=>lH 2 [] [0,1,2,3,4] [1] [1,2,3,6,7,36,37,38] (ih.2 _ _ _ _ _ _))<|rS (gP 0)<|rC 1 [0,1] (ih.1 _ _ _ _) λr18=>rS (oS 0 (xR wC [r18]))<|rW (λh21=>oP 0 (vZ h21 (by simp))) λ_=>lH 2 [] [0,1,2,3,4] [1] [1,2,3,6,7,36,37,38] (ih.2 _ _ _ _ _ _))<|rS (gP 0)<|rC 1 [0,1] (ih.1 _ _ _ _) λr22=>rS (oS 0 (xR wC [r22]))<|rW (λh25=>oP 0 (vZ h25 (by simp))) λ_=>lH 2 [] [0,1,2,3,4] [1] [1,2,3,6,7,36,37,38] (ih.2 _ _ _ _ _ _))<|lE 2⟩
theorem zOX{g b e c d}:Cz (nR g b e c d) 223 [.cells [ai c],.cells [ai d]] [yY b,ai e,.clo 224 [] [.mp 0 0,.mp 1 0]] (λr=>yY r) (λ_=>[.cells [ai c],.cells [ai d]]) 0:=(bN _).1 _ _ _ _
def zOY(a:Nat)(b:Tm)(c d:Int):Option (Tm×Int):=dV a b>>=λr1=>if r1 then zOV a c>>=λr4=>if r4 then zOV a d>>=λr7=>if r7 then nR a b 0 d c>>=λr10=>dV a r10>>=λr12=>if r12 then some (r10,0)else some ((Tm.mk 0 0 []),2)else some ((Tm.mk 0 0 []),5)else some ((Tm.mk 0 0 []),5)else some ((Tm.mk 0 0 []),5)
theorem zZl{a b c d}:Cz (zOY a b c d) 205 [] [yY b,ai c,ai d] (λr=>.tup [yY r.1,ai r.2]) (λ_=>[]) 0:=fw func205<|rK 1 [] aA (λ_=>rK 2 [] zZm (λ_=>rK 2 [] zZm (λ_=>rC 2 [2,1] zOX λ_=>rK 2 [] aA (λ_=>fE 3) λ_=>fE 2) λ_=>fE 2) λ_=>fE 2) λ_=>fE 2
def zIv(c:Nat)(a:Tm)(b:Int):Option (Tm×Int):=zOY c a b 0>>=λr1=>some (r1.1,r1.2)
theorem zSe{c a b}:Cz (zIv c a b) 183 [] [yY a,ai b] (λr=>.tup [yY r.1,ai r.2]) (λ_=>[]) 0:=fw func183<|rC 1 [] zZl λ_=>fE 3
def wS(k:Int)(i:Nat)(b:Int):Int:=if i=1/\k≠5 then b+1 else b
mutual def A1:Tm->Int->Int->Int->Tm|.mk kd n l,b,c,k=>if kd=1 then .mk 1 (if b<=n then(if n-b<c then n-b else n-b+k)+b else n) []else .mk kd n (W7 l kd 0 b c k)def W7:List Tm->Int->Nat->Int->Int->Int->List Tm|[],_,_,_,_,_=>[]|t::l,kd,i,b,c,k=>A1 t (wS kd i b) c k::W7 l kd (i+1) b c k end
theorem zJY:∀(l:List Tm)(kd:Int)(i:Nat)(b c k:Int),(W7 l kd i b c k).length=l.length|[],_,_,_,_,_=>by rw[W7]|t::l,kd,i,b,c,k=>by rw[W7];exact congrArg (·+1) (zJY l kd (i+1) b c k)
theorem L6(n:Int):zH (λq=>zFl q n) (.mk 1 n []):=zH.mk λ_=>rfl
theorem cA(n:Int):zH (λq=>zDo q n) (.mk 2 n []):=zH.mk λ_=>rfl
mutual theorem W8:∀(t:Tm)(b c k:Int),xZ t=true->0<=b->b+t.high<=1152921504606846976->0<=c->c<=1048576->0<=k->k<=1048576->zH (λq=>nR q t b c k) (A1 t b c k)
 |.mk kd n l,b,c,k,hg,hb,hb2,hc,hc2,hk,hk2=>by
  refine zH.succ ?_;simp only[nR];have hh:=uD hg;have hn:=fY hh.1;rw[Tm.high]at hb2;rw[A1];by_cases h1:kd=1
  ·rw[if_pos h1];refine zH.ifT (by simpa[Tm.k]using h1) ?_;simp only[Tm.n];by_cases h2:n>=b
   ·refine zH.ifT (by simpa using h2) ?_;rw[if_pos h2,yQ (x:=n-b) (by omega) (by omega)];refine zH.bind (a:=if n-b<c then n-b else n-b+k) ?_ ?_
    ·refine zH.mk λq=>?_;unfold o9;by_cases h3:n-b<c;·simp[h3]
     ·simp[h3];exact yQ (by omega) (by omega)
    ·rw[yQ (by split<;>omega) (by split<;>omega)];exact(L6 _).bind zH.ret
   ·refine zH.ifF (by simpa using h2) ?_;rw[if_neg h2];exact(L6 _).bind zH.ret
  ·rw[if_neg h1];refine zH.ifF (by simpa[Tm.k]using h1) ?_;exact zFk l (.mk kd n l) 0 b c k [] rfl hh.2 (by have:=hn.2.2.2.2;exact this) hb (by omega) hc hc2 hk hk2 (by simp)theorem zFk:∀(l:List Tm)(p:Tm)(v:Nat)(b c k:Int)(acc:List Tm),p.sub.drop v=l->pP l=true->p.sub.length<=2->0<=b->b+1+pO l<=1152921504606846976->0<=c->c<=1048576->0<=k->k<=1048576->acc.length<=v->zH (λq=>tK q p b c k (v:Int) acc) (.mk p.k p.n (acc++W7 l p.k v b c k))
 |[],p,v,b,c,k,acc,hd,hg,hl,hb,hb2,hc,hc2,hk,hk2,ha=>by refine zH.succ ?_;simp only[tK];exact zH.ifF (yB hd) (zH.ret.eq (by rw[W7];simp))|t::l,p,v,b,c,k,acc,hd,hg,hl,hb,hb2,hc,hc2,hk,hk2,ha=>by
  have hlt:=yF hd;have hgc:=vI hg;rw[pO]at hb2;refine zH.succ ?_;simp only[tK];refine zH.ifT (yA hd) (zH.pure (zZ hd) ?_);have next:∀(x:Tm),zH (λq=>yZ 40 acc [x]>>=λl16=>tK q p b c k (xF ((v:Int)+1)) l16) (.mk p.k p.n (acc++x::W7 l p.k (v+1) b c k)):=λx=>by refine zH.pure (yG (by simp<;>omega)) ?_;rw[zW v (by omega)];refine(zFk l p (v+1) b c k (acc++[x]) (zS hd) hgc.2 hl hb (by omega) hc hc2 hk hk2 (by simp<;>omega)).eq (by simp)
  rw[W7];by_cases h1:v=1
  ·subst h1;refine zH.ifT rfl ?_;by_cases h5:p.k=5
   ·refine zH.ifF (by simp[h5]) ?_;have e:wS p.k 1 b=b:=by unfold wS;simp[h5]
    rw[e];exact(W8 t b c k hgc.1 hb (by omega) hc hc2 hk hk2).bind (next _)
   ·refine zH.ifT (by simp[h5]) ?_;have e:wS p.k 1 b=b+1:=by unfold wS;simp[h5]
    rw[e,yQ (x:=b+1) (by omega) (by omega)];exact(W8 t (b+1) c k hgc.1 (by omega) (by omega) hc hc2 hk hk2).bind (next _)
  ·refine zH.ifF (by simp<;>omega) ?_;have e:wS p.k v b=b:=by unfold wS;simp[h1]
   rw[e];exact(W8 t b c k hgc.1 hb (by omega) hc hc2 hk hk2).bind (next _)end
mutual theorem zIu:∀(t:Tm)(b c k:Int),t.Ok->(A1 t b c k).Ok
 |.mk kd n l,b,c,k,h=>by
  rw[A1];split;·rw[Tm.Ok,kQ];simp
  ·rw[Tm.Ok]at h⊢;rw[zJY];exact⟨h.1,zOZ l kd 0 b c k h.2⟩theorem zOZ:∀(l:List Tm)(kd:Int)(i:Nat)(b c k:Int),kQ l->kQ (W7 l kd i b c k)|[],_,_,_,_,_,_=>by rw[W7,kQ];trivial|t::l,kd,i,b,c,k,h=>by rw[kQ]at h;rw[W7,kQ];exact⟨zIu t _ c k h.1,zOZ l kd (i+1) b c k h.2⟩end
def aB(n:Int):Bool:=decide (0<=n)&&decide (n<=1048576)
theorem zJZ(n:Int):zH (λq=>zOV q n) (aB n):=by
 refine zH.mk λq=>?_;unfold zOV aB;by_cases h:n>=0;·rw[zVM (decide_eq_true h)];simp[show 0<=n from h]
 ·rw[zSw (decide_eq_false h)];simp[show¬0<=n from h]
def zT:Tm:=.mk 0 0 []
def uP(t:Tm)(k c:Int):Tm×Int:=if zF t=true/\aB k=true/\aB c=true then(if zF (A1 t 0 c k)=true then(A1 t 0 c k,0)else(zT,2))else(zT,5)
theorem zKz(t:Tm)(k c:Int)(ho:t.Ok):zH (λq=>zOY q t k c) (uP t k c):=by
 simp only[zOY];refine(xI t ho).bind ?_;unfold uP;by_cases h1:zF t=true
 ·refine zH.ifT h1 ((zJZ k).bind ?_);by_cases h2:aB k=true
  ·refine zH.ifT h2 ((zJZ c).bind ?_);by_cases h3:aB c=true
   ·rw[if_pos ⟨h1,h2,h3⟩];have hs:=zM h1;have h2':=h2;have h3':=h3;unfold aB at h2' h3';simp only[Bool.and_eq_true,decide_eq_true_eq]at h2' h3';refine zH.ifT h3 ((W8 t 0 c k hs.2.2 (by omega) (by omega) h3'.1 h3'.2 h2'.1 h2'.2).bind ((xI _ (zIu t 0 c k ho)).bind ?_));by_cases h4:zF (A1 t 0 c k)=true;·rw[if_pos h4,if_pos h4];exact zH.ret
    ·rw[if_neg h4,if_neg h4];exact zH.ret
   ·rw[if_neg (λh=>h3 h.2.2)];exact zH.ifF (by simpa using h3) zH.ret
  ·rw[if_neg (λh=>h2 h.2.1)];exact zH.ifF (by simpa using h2) zH.ret
 ·rw[if_neg (λh=>h1 h.1)];exact zH.ifF (by simpa using h1) zH.ret
theorem jI(t:Tm)(k c:Int)(ho:t.Ok):(uP t k c).1.Ok:=by
 have hz:zT.Ok:=by unfold zT;rw[Tm.Ok,kQ];simp
 unfold uP;split
 ·split;·exact zIu t 0 c k ho
  ·exact hz
 ·exact hz
theorem zKy(t:Tm)(k:Int)(ho:t.Ok):zH (λq=>zIv q t k) (uP t k 0):=by simp only[zIv];exact(zKz t k 0 ho).bind zH.ret
def raT(a:Tm)(by' left:Int)(long:Bool):Tm×Int×Bool:=if left-szT a 0<0 then(.mk 2 0 [],left-szT a 0,true)else if(uP a by' 0).2≠0 then(.mk 2 0 [],left-szT a 0,true)else((uP a by' 0).1,left-szT a 0,long)
mutual def C0(ls:List Tm):Tm->Int->Int->Bool->Tm×Int×Bool|.mk kd n l,b,left,long=>if long=true then(.mk 2 0 [],left,long)else if kd=1/\b<=n then(if h:(n-b).toNat<ls.length then raT (ls[(n-b).toNat]) b left long else(.mk 1 (n-ls.length) [],left,long))else let r:=S5 ls l kd 0 b (left-1) (decide (left-1<0))
  (.mk kd n r.1,r.2.1,r.2.2)def S5(ls:List Tm):List Tm->Int->Nat->Int->Int->Bool->List Tm×Int×Bool|[],_,_,_,left,long=>([],left,long)|t::l,kd,i,b,left,long=>let x:=C0 ls t (wS kd i b) left long
 let r:=S5 ls l kd (i+1) b x.2.1 x.2.2
 (x.1::r.1,r.2.1,r.2.2)end
def lO(left:Int)(long:Bool):Prop:=-8193<=left/\left<=8192/\(long=false->0<=left)
theorem zPz{a:Tm}{by' left:Int}(h:lO left false):lO (raT a by' left false).2.1 (raT a by' left false).2.2:=by
 have:=zEI a 0 (by omega) (by omega);have h0:=h.2.2 rfl;have h1:=h.2.1;unfold raT lO;split;·exact⟨by simp only;omega,by simp only;omega,λh=>by cases h⟩
 ·split;·exact⟨by simp only;omega,by simp only;omega,λh=>by cases h⟩
  ·exact⟨by simp only;omega,by simp only;omega,λ_=>by simp only;omega⟩
def zFj(d:Nat)(a:Int)(b:Bool)(c:yV):Option (Unit):=some ()
theorem zPy{d a b c}:Cz (zFj d a b c) 136 [.cells [ai a,ab b,.val .nilFunc],.cells [zP zA c .no]] [.mp 0 0,.mp 1 0] (λ_=>.clo 137 [] [.mp 1 0,.mp 2 0]) (λ_=>[.cells [ai a,ab b,.val .nilFunc],.cells [zP zA c .no],.cells [.mp 0 0]]) 0:=fw func136<|fF 0 [0,1,2]
def zSd(c:Nat)(a:Tm)(b:Int):Option (Int):=if a.k !=1 then some (-1)else if decide (a.n<b)then some (-1)else some (xF (a.n-b))
theorem yBl{c a b}:Cz (zSd c a b) 138 [] [yY a,ai b] (λr=>ai r) (λ_=>[]) 0:=fw func138<|rB 1 (fE 0)<|rB 1 (fE 0)<|fE 2
def F4(b:Nat)(a:Int)(d:Bool)(e:yV)(c:Tm)(f:Int):Option (Tm×Int×Bool):=zMy b c>>=λr1=>if decide ((xF (a-r1))<0)then zDo b 0>>=λr4=>some (r4,(xF (a-r1)),true)else zIv b c f>>=λr6=>if r6.2 !=0 then zDo b 0>>=λr9=>some (r9,(xF (a-r1)),true)else some (r6.1,(xF (a-r1)),d)
theorem zPx{b a d e c f}:Cz (F4 b a d e c f) 139 [.cells [ai a,ab d,.clo 137 [] [.mp 1 0,.mp 2 0]],.cells [zP zA e .no],.cells [.mp 0 0]] [.mp 0 0,yY c,ai f] (λr=>yY r.1) (λr=>[.cells [ai r.2.1,ab r.2.2,.clo 137 [] [.mp 1 0,.mp 2 0]],.cells [zP zA e .no],.cells [.mp 0 0]]) 0:=fw func139<|rS (gP 0)<|rC 1 [] zWz λ_=>rB 3 (rC 1 [] zIw λ_=>fE 1)<|rC 1 [] zSe λ_=>rB 3 (rC 1 [] zIw λ_=>fE 1)<|fE 2
def jJ(d:Nat)(e:Tm)(f:Int)(a:yV)(b:Int)(c:Bool):Option (Tm×Bool×Int×Bool):=zSd d e f>>=λr1=>if decide (r1<0)then some ((Tm.mk 0 0 []),false,b,c)else if decide (r1<(a.length:Int))then zV a r1>>=λx5=>F4 d b c a x5 f>>=λr7=>some (r7.1,true,r7.2.1,r7.2.2)else zFl d (xF (e.n-(a.length:Int)))>>=λr9=>some (r9,true,b,c)
theorem zPw{d e f a b c}:Cz (jJ d e f a b c) 137 [.cells [zP zA a .no],.cells [.mp 2 0],.cells [ai b,ab c,.clo 137 [] [.mp 0 0,.mp 1 0]]] [yY e,ai f,.mp 0 0,.mp 1 0] (λr=>.tup [yY r.1,ab r.2.1]) (λr=>[.cells [zP zA a .no],.cells [.mp 2 0],.cells [ai r.2.2.1,ab r.2.2.2,.clo 137 [] [.mp 0 0,.mp 1 0]]]) 0:=fw func137<|rC 1 [] yBl λ_=>rB 0 (fE 1)<|rB 2 (rA 2 (wE (o:=.no)) λ_=>rC 1 [2,0,1] zPx λ_=>fE 1)<|rC 4 [] zMr λ_=>fE 1
mutual def nS:Nat->Int->Bool->yV->Tm->Int->Option (Tm×Int×Bool)|0,_,_,_,_,_=>none|m+1,q,p,e,d,f=>if p then zDo m 0>>=λr2=>some (r2,q,p)else jJ m d f e q p>>=λr4=>if r4.2.1 then some (r4.1,r4.2.2.1,r4.2.2.2)else if decide ((xF (r4.2.2.1-1))<0)then uE m e d f 0 (xF (r4.2.2.1-1)) true []else uE m e d f 0 (xF (r4.2.2.1-1)) r4.2.2.2 []def uE:Nat->yV->Tm->Int->Int->Int->Bool->yV->Option (Tm×Int×Bool)
 |0,_,_,_,_,_,_,_=>none|m+1,e,d,f,g,a,b,c=>if decide (g<(d.sub.length:Int))then zV d.sub g>>=λx9=>if g==1 then if d.k !=5 then nS m a b e x9 (xF (f+1))>>=λr13=>yZ 40 c [r13.1]>>=λl15=>uE m e d f (xF (g+1)) r13.2.1 r13.2.2 l15 else nS m a b e x9 f>>=λr17=>yZ 40 c [r17.1]>>=λl19=>uE m e d f (xF (g+1)) r17.2.1 r17.2.2 l19 else nS m a b e x9 f>>=λr21=>yZ 40 c [r21.1]>>=λl23=>uE m e d f (xF (g+1)) r21.2.1 r21.2.2 l23 else some ((Tm.mk d.k d.n c),a,b)end
theorem bP:∀m:Nat,(∀q p e d f,Cz (nS m q p e d f) 181 [.cells [ai q,ab p,.clo 137 [] [.mp 1 0,.mp 2 0]],.cells [zP zA e .no],.cells [.mp 0 0]] [.mp 0 0,yY d,ai f] (λr=>yY r.1) (λr=>[.cells [ai r.2.1,ab r.2.2,.clo 137 [] [.mp 1 0,.mp 2 0]],.cells [zP zA e .no],.cells [.mp 0 0]]) 0)/\(∀e d f g a b c,Lz (uE m e d f g a b c) 3 f181 (pt 262069 f181) (λj=>sp j 79 0 [(0,.mp 0 0),(2,ai f),(4,.mp 3 0),(6,.mp 4 0),(9,.mp 5 0),(51,zP zA d.sub .no),(52,ai (d.sub.length:Int)),(53,ai g)]) ⟨[(0,.cells [ai a,ab b,.clo 137 [] [.mp 1 0,.mp 2 0]]),(1,.cells [zP zA e .no]),(2,.cells [.mp 0 0]),(3,.cells [ai d.k,ai d.n,zP zA d.sub .no]),(4,.cells [ai 0,ai 0,zP zA ([]:yV) .nl]),(5,.cells [ai d.k,ai d.n,zP zA c (.st 0 3)])],6,[0],1,[]⟩ (λr=>yY r.1) (λr=>[.cells [ai r.2.1,ab r.2.2,.clo 137 [] [.mp 1 0,.mp 2 0]],.cells [zP zA e .no],.cells [.mp 0 0]]) 0 [.blk 0,.seq (pt 4095 f181)]):=wF ⟨λ_ _ _ _ _=>cN,λ_ _ _ _ _ _ _=>lN⟩ λm ih=>⟨λq p e d f=>fw func181<|rB 0 (rC 0 [] zIw λ_=>fE 1)<|rC 2 [1,2,0] zPw λ_=>rB 1 (fE 3)<|rB 5 (fH 6 [(some 6,2,3)] [0,1,2,3,4,6] [0] [0,2,4,6,9,51,52,53] (ih.2 _ _ _ _ _ _ _))<|fH 5 [(some 6,2,3)] [0,1,2,3,4,6] [0] [0,2,4,6,9,51,52,53] (ih.2 _ _ _ _ _ _ _),λe d f g a b c=>lw λ_=>rB 0 (rA 0 (wE (o:=.no)) λ_=>rB 2 (rB 1 (rS (gP 1)<|rC 1 [0,1,2] (ih.1 _ _ _ _ _) λr13=>rS (oS 0 (xR wC [r13.1]))<|rW (λh16=>oP 0 (vZ h16 (by simp))) λ_=>lH 2 [] [0,1,2,3,4,5] [1] [0,2,4,6,9,51,52,53] (ih.2 _ _ _ _ _ _ _))<|rS (gP 0)<|rC 1 [0,1,2] (ih.1 _ _ _ _ _) λr17=>rS (oS 0 (xR wC [r17.1]))<|rW (λh20=>oP 0 (vZ h20 (by simp))) λ_=>lH 2 [] [0,1,2,3,4,5] [1] [0,2,4,6,9,51,52,53] (ih.2 _ _ _ _ _ _ _))<|rS (gP 0)<|rC 1 [0,1,2] (ih.1 _ _ _ _ _) λr21=>rS (oS 0 (xR wC [r21.1]))<|rW (λh24=>oP 0 (vZ h24 (by simp))) λ_=>lH 2 [] [0,1,2,3,4,5] [1] [0,2,4,6,9,51,52,53] (ih.2 _ _ _ _ _ _ _))<|lE 2⟩
theorem zPv{m q p e d f}:Cz (nS m q p e d f) 181 [.cells [ai q,ab p,.clo 137 [] [.mp 1 0,.mp 2 0]],.cells [zP zA e .no],.cells [.mp 0 0]] [.mp 0 0,yY d,ai f] (λr=>yY r.1) (λr=>[.cells [ai r.2.1,ab r.2.2,.clo 137 [] [.mp 1 0,.mp 2 0]],.cells [zP zA e .no],.cells [.mp 0 0]]) 0:=(bP _).1 _ _ _ _ _
def F5(b:Nat)(c:Tm)(a:yV):Option (Tm×Int):=zFj b 8192 false a>>=λr1=>nS b 8192 false a c 0>>=λr3=>if r3.2.2 then some ((Tm.mk 0 0 []),2)else dV b r3.1>>=λr6=>if r6 then some (r3.1,0)else some ((Tm.mk 0 0 []),2)
theorem zPu{b c a}:Cz (F5 b c a) 135 [.cells [zP zA a .no]] [yY c,.clo 136 [] [.mp 0 0]] (λr=>.tup [yY r.1,ai r.2]) (λ_=>[.cells [zP zA a .no]]) 0:=fw func135<|rC 0 [3,0] zPy λ_=>rC 2 [3,0,4] zPv λ_=>rB 1 (fE 1)<|rK 1 [] aA (λ_=>fE 3) λ_=>fE 2
def cB:Nat->Tm->yV->Int->Option (Tm×Int)|0,_,_,_=>none|d+1,c,a,b=>if decide (b<(a.length:Int))then zV a b>>=λx5=>dV d x5>>=λr7=>if r7 then cB d c a (xF (b+1))else some ((Tm.mk 0 0 []),5)else F5 d c a>>=λr10=>some (r10.1,r10.2)
def A2(d:Nat)(c:Tm)(a:yV):Option (Tm×Int):=dV d c>>=λr1=>if r1 then cB d c a 0 else some ((Tm.mk 0 0 []),5)
theorem zSc:∀d:Nat,∀c a b,Lz (cB d c a b) 0 f104 (pt 4021 f104) (λj=>sp j 28 0 [(2,.mp 0 0),(3,.mp 1 0),(4,.mp 2 0),(12,zP zA a .no),(13,ai (a.length:Int)),(14,ai b)]) ⟨[(0,.cells [ai c.k,ai c.n,zP zA c.sub .no]),(1,.cells [zP zA a .no]),(2,.cells [ai 0,ai 0,zP zA ([]:yV) .nl])],3,[],0,[]⟩ (λr=>.tup [yY r.1,ai r.2]) (λ_=>[]) 0 [.blk 0,.seq (pt 63 f104)]:=wF (λ_ _ _=>lN) λd ih=>λc a b=>lw λ_=>rB 0 (rA 0 (wE (o:=.no)) λ_=>rK 3 [] aA (λ_=>lH 2 [] [0,1,2] [] [2,3,4,12,13,14] (ih _ _ _)) λ_=>lE 2)<|rC 1 [1] zPu λ_=>lE 3
theorem U6{d c a}:Cz (A2 d c a) 104 [] [yY c,zP zA a .no] (λr=>.tup [yY r.1,ai r.2]) (λ_=>[]) 0:=fw func104<|rK 1 [] aA (λ_=>fH 3 [] [0,1,2] [] [2,3,4,12,13,14] (zSc _ _ _ _)) λ_=>fE 2
def zSb(c:Nat)(b a:Tm):Option (Tm×Int):=A2 c b [a]>>=λr1=>some (r1.1,r1.2)
theorem yBk{c b a}:Cz (zSb c b a) 246 [] [yY b,yY a] (λr=>.tup [yY r.1,ai r.2]) (λ_=>[]) 0:=fw func246<|rS (oS 2 (xR wC [a]))<|rC 0 [] U6 λ_=>fE 3
theorem zKx:zT.Ok:=by unfold zT;rw[Tm.Ok,kQ];simp
theorem wH(k n:Int):(Tm.mk k n []).Ok:=by rw[Tm.Ok,kQ];simp
theorem zMq(ls:List Tm)(a:Tm)(b left:Int)(long:Bool)(ho:a.Ok)(hl:lO left long):zH (λq=>F4 q left long ls a b) (raT a b left long):=by
 simp only[F4];have hs:=zEI a 0 (by omega) (by omega);have h1:=hl.1;have h2:=hl.2.1;refine(zDp a ho).bind ?_;rw[yQ (x:=left-szT a 0) (by omega) (by omega)];unfold raT;by_cases h:left-szT a 0<0;·rw[if_pos h];exact zH.ifT (decide_eq_true h) ((cA 0).bind zH.ret)
 ·rw[if_neg h];refine zH.ifF (decide_eq_false h) ((zKy a b ho).bind ?_);by_cases h3:(uP a b 0).2≠0;·rw[if_pos h3];exact zH.ifT (by simpa using h3) ((cA 0).bind zH.ret)
  ·rw[if_neg h3];exact zH.ifF (by simpa using h3) zH.ret
mutual theorem W9(ls:List Tm):∀(t:Tm)(b left:Int)(long:Bool),lO left long->lO (C0 ls t b left long).2.1 (C0 ls t b left long).2.2|.mk kd n l,b,left,long,h=>by rw[C0];cases long with|true=>simpa using h|false=>
 rw[if_neg (by simp)];split
 ·split;·exact zPz h
  ·exact h
 ·have h0:=h.2.2 rfl;have h1:=h.2.1;refine zFi ls l kd 0 b _ _ ⟨by omega,by omega,λh2=>?_⟩;simp at h2;omega theorem zFi(ls:List Tm):∀(l:List Tm)(kd:Int)(i:Nat)(b left:Int)(long:Bool),lO left long->lO (S5 ls l kd i b left long).2.1 (S5 ls l kd i b left long).2.2|[],kd,i,b,left,long,h=>by rw[S5];exact h|t::l,kd,i,b,left,long,h=>by rw[S5];exact zFi ls l kd (i+1) b _ _ (W9 ls t _ left long h)end
theorem zKw(ls:List Tm):∀(l:List Tm)(kd:Int)(i:Nat)(b left:Int)(long:Bool),(S5 ls l kd i b left long).1.length=l.length|[],_,_,_,_,_=>by rw[S5]|t::l,kd,i,b,left,long=>by rw[S5];exact congrArg (·+1) (zKw ls l kd (i+1) b _ _)
theorem zWt(a:Tm)(b left:Int)(long:Bool)(h:a.Ok):(raT a b left long).1.Ok:=by
 unfold raT;split;·exact wH _ _
 ·split;·exact wH _ _
  ·exact jI a b 0 h
mutual theorem zIt(ls:List Tm)(hls:∀a∈ls,a.Ok):∀(t:Tm)(b left:Int)(long:Bool),t.Ok->(C0 ls t b left long).1.Ok
 |.mk kd n l,b,left,long,h=>by
  rw[C0];split;·exact wH _ _
  ·split
   ·split;·exact zWt _ _ _ _ (hls _ (List.getElem_mem _))
    ·exact wH _ _
   ·rw[Tm.Ok]at h⊢;rw[zKw];exact⟨h.1,zPt ls hls l kd 0 b _ _ h.2⟩theorem zPt(ls:List Tm)(hls:∀a∈ls,a.Ok):∀(l:List Tm)(kd:Int)(i:Nat)(b left:Int)(long:Bool),kQ l->kQ (S5 ls l kd i b left long).1|[],_,_,_,_,_,_=>by rw[S5,kQ];trivial|t::l,kd,i,b,left,long,h=>by rw[kQ]at h;rw[S5,kQ];exact⟨zIt ls hls t _ _ _ h.1,zPt ls hls l kd (i+1) b _ _ h.2⟩end
mutual theorem zKv(ls:List Tm)(hls:∀a∈ls,a.Ok)(hlen:ls.length<=1152921504606846976):∀(t:Tm)(b left:Int)(long:Bool),xZ t=true->0<=b->b+t.high<=1152921504606846976->lO left long->zH (λq=>nS q left long ls t b) (C0 ls t b left long)|.mk kd n l,b,left,long,hg,hb,hb2,hl=>by refine zH.succ ?_;simp only[nS];have hh:=uD hg;have hn:=fY hh.1;rw[Tm.high]at hb2;rw[C0];cases long with|true=>exact zH.ifT rfl ((cA 0).bind (zH.ret.eq (by simp)))|false=>
   refine zH.ifF rfl ?_;rw[if_neg (by simp)];have hloose:zH (λq=>zSd q (.mk kd n l) b) (if kd=1/\b<=n then n-b else-1):=by
    refine zH.mk λq=>?_;unfold zSd;simp only[Tm.k,Tm.n];by_cases h1:kd=1
    ·by_cases h2:n<b;·simp[h1,h2,show¬b<=n by omega]
     ·simp[h1,h2,show b<=n by omega];exact yQ (by omega) (by omega)
    ·simp[h1]
   by_cases h1:kd=1/\b<=n
   ·rw[if_pos h1]at hloose⊢;have hleaf:zH (λq=>jJ q (.mk kd n l) b ls left false) (let r:=(if h:(n-b).toNat<ls.length then raT (ls[(n-b).toNat]) b left false else(.mk 1 (n-ls.length) [],left,false));(r.1,true,r.2.1,r.2.2)):=by
     simp only[jJ];refine hloose.bind (zH.ifF (decide_eq_false (by omega)) ?_);by_cases h2:(n-b).toNat<ls.length
     ·rw[dif_pos h2];refine zH.ifT (decide_eq_true (by omega)) (zH.pure (a:=ls[(n-b).toNat]) ?_ ((zMq ls _ b left false (hls _ (List.getElem_mem _)) hl).bind zH.ret));unfold zV;rw[if_pos (by omega)];exact List.getElem?_eq_getElem h2
     ·rw[dif_neg h2];refine zH.ifF (decide_eq_false (by omega)) ?_;simp only[Tm.n];rw[yQ (by omega) (by omega)];exact(L6 _).bind zH.ret
    exact hleaf.bind (zH.ifT rfl zH.ret)
   ·rw[if_neg h1]at hloose⊢;have hleaf:zH (λq=>jJ q (.mk kd n l) b ls left false) (.mk 0 0 [],false,left,false):=by simp only[jJ];exact hloose.bind (zH.ifT rfl zH.ret)
    refine hleaf.bind (zH.ifF rfl ?_);have h0:=hl.2.2 rfl;have h3:=hl.2.1;rw[yQ (x:=left-1) (by omega) (by omega)];have go:∀lg:Bool,lg=decide (left-1<0)->zH (λq=>uE q ls (.mk kd n l) b 0 (left-1) lg []) (let r:=S5 ls l kd 0 b (left-1) (decide (left-1<0));(.mk kd n r.1,r.2.1,r.2.2)):=λlg hlg=>by subst hlg;refine(zPs ls hls hlen l (.mk kd n l) 0 b (left-1) _ [] rfl hh.2 (by have:=hn.2.2.2.2;exact this) hb (by omega) ⟨by omega,by omega,λh2=>?_⟩ (by simp)).eq (by simp[Tm.k,Tm.n]);simp at h2;omega
    by_cases h4:left-1<0;·exact zH.ifT (decide_eq_true h4) (go true (by simp[h4]))
    ·exact zH.ifF (decide_eq_false h4) (go false (by simp[h4]))theorem zPs(ls:List Tm)(hls:∀a∈ls,a.Ok)(hlen:ls.length<=1152921504606846976):∀(l:List Tm)(p:Tm)(v:Nat)(b left:Int)(long:Bool)(acc:List Tm),p.sub.drop v=l->pP l=true->p.sub.length<=2->0<=b->b+1+pO l<=1152921504606846976->lO left long->acc.length<=v->zH (λq=>uE q ls p b (v:Int) left long acc) (.mk p.k p.n (acc++(S5 ls l p.k v b left long).1),(S5 ls l p.k v b left long).2.1,(S5 ls l p.k v b left long).2.2)
 |[],p,v,b,left,long,acc,hd,hg,hl2,hb,hb2,hl,ha=>by refine zH.succ ?_;simp only[uE];exact zH.ifF (yB hd) (zH.ret.eq (by rw[S5];simp))|t::l,p,v,b,left,long,acc,hd,hg,hl2,hb,hb2,hl,ha=>by
  have hlt:=yF hd;have hgc:=vI hg;rw[pO]at hb2;refine zH.succ ?_;simp only[uE];refine zH.ifT (yA hd) (zH.pure (zZ hd) ?_);have next:∀x:Tm×Int×Bool,lO x.2.1 x.2.2->zH (λq=>yZ 40 acc [x.1]>>=λl15=>uE q ls p b (xF ((v:Int)+1)) x.2.1 x.2.2 l15) (.mk p.k p.n (acc++x.1::(S5 ls l p.k (v+1) b x.2.1 x.2.2).1),(S5 ls l p.k (v+1) b x.2.1 x.2.2).2.1,(S5 ls l p.k (v+1) b x.2.1 x.2.2).2.2):=λx hx=>by refine zH.pure (yG (by simp<;>omega)) ?_;rw[zW v (by omega)];exact(zPs ls hls hlen l p (v+1) b x.2.1 x.2.2 (acc++[x.1]) (zS hd) hgc.2 hl2 hb (by omega) hx (by simp<;>omega)).eq (by simp)
  rw[S5];by_cases h1:v=1
  ·subst h1;refine zH.ifT rfl ?_;by_cases h5:p.k=5
   ·refine zH.ifF (by simp[h5]) ?_;have e:wS p.k 1 b=b:=by unfold wS;simp[h5]
    rw[e];exact(zKv ls hls hlen t b left long hgc.1 hb (by omega) hl).bind (next _ (W9 ls t b left long hl))
   ·refine zH.ifT (by simp[h5]) ?_;have e:wS p.k 1 b=b+1:=by unfold wS;simp[h5]
    rw[e,yQ (x:=b+1) (by omega) (by omega)];exact(zKv ls hls hlen t (b+1) left long hgc.1 (by omega) (by omega) hl).bind (next _ (W9 ls t (b+1) left long hl))
  ·refine zH.ifF (by simp<;>omega) ?_;have e:wS p.k v b=b:=by unfold wS;simp[h1]
   rw[e];exact(zKv ls hls hlen t b left long hgc.1 hb (by omega) hl).bind (next _ (W9 ls t b left long hl))end
def fZ(t:Tm)(ls:List Tm):Tm×Int:=if zF t=true/\(ls.all zF)=true then(if(C0 ls t 0 8192 false).2.2=true then(zT,2)else if zF (C0 ls t 0 8192 false).1=true then((C0 ls t 0 8192 false).1,0)else(zT,2))else(zT,5)
theorem zWs(t:Tm)(ls:List Tm)(h:zF t=true)(ho:t.Ok)(hls:∀a∈ls,a.Ok)(hlen:ls.length<=1152921504606846976):zH (λq=>F5 q t ls) (if(C0 ls t 0 8192 false).2.2=true then(zT,2)else if zF (C0 ls t 0 8192 false).1=true then((C0 ls t 0 8192 false).1,0)else(zT,2)):=by
 simp only[F5];have hs:=zM h;refine zH.bind (a:=()) (zH.mk λ_=>rfl) ((zKv ls hls hlen t 0 8192 false hs.2.2 (by omega) (by omega) ⟨by omega,by omega,λ_=>by omega⟩).bind ?_);by_cases h1:(C0 ls t 0 8192 false).2.2=true;·rw[if_pos h1];exact zH.ifT h1 zH.ret
 ·rw[if_neg h1];refine zH.ifF (by simpa using h1) ((xI _ (zIt ls hls t 0 8192 false ho)).bind ?_);by_cases h2:zF (C0 ls t 0 8192 false).1=true;·rw[if_pos h2,if_pos h2];exact zH.ret
  ·rw[if_neg h2,if_neg h2];exact zH.ret
theorem zFh(t:Tm)(ls:List Tm)(h:zF t=true)(ho:t.Ok)(hls:∀a∈ls,a.Ok)(hlen:ls.length<=1152921504606846976):∀(r:List Tm)(v:Nat),ls.drop v=r->zH (λq=>cB q t ls (v:Int)) (if(r.all zF)=true then(if(C0 ls t 0 8192 false).2.2=true then(zT,2)else if zF (C0 ls t 0 8192 false).1=true then((C0 ls t 0 8192 false).1,0)else(zT,2))else(zT,5))
 |[],v,hd=>by refine zH.succ ?_;simp only[cB];exact zH.ifF (yB hd) ((zWs t ls h ho hls hlen).bind (zH.ret.eq (by simp)))|x::r,v,hd=>by
  have hlt:=yF hd;have hx:x∈ls:=by
   have:x∈ls.drop v:=by rw[hd];simp
   exact List.mem_of_mem_drop this
  refine zH.succ ?_;simp only[cB];refine zH.ifT (yA hd) (zH.pure (zZ hd) ((xI x (hls x hx)).bind ?_));by_cases h1:zF x=true
  ·refine zH.ifT h1 ?_;rw[zW v (by omega)];exact(zFh t ls h ho hls hlen r (v+1) (zS hd)).eq (by simp[h1])
  ·exact zH.ifF (by simpa using h1) (zH.ret.eq (by simp[h1,zT]))
theorem X0(t:Tm)(ls:List Tm)(ho:t.Ok)(hls:∀a∈ls,a.Ok)(hlen:ls.length<=1152921504606846976):zH (λq=>A2 q t ls) (fZ t ls):=by
 simp only[A2];refine(xI t ho).bind ?_;unfold fZ;by_cases h:zF t=true
 ·refine zH.ifT h ((zFh t ls h ho hls hlen ls 0 rfl).eq ?_);simp[h]
 ·exact zH.ifF (by simpa using h) (zH.ret.eq (by simp[h,zT]))
theorem zWr(t a:Tm)(ho:t.Ok)(ha:a.Ok):zH (λq=>zSb q t a) (fZ t [a]):=by simp only[zSb];exact(X0 t [a] ho (by simpa using ha) (by simp)).bind zH.ret
theorem X1(t:Tm)(ls:List Tm)(ho:t.Ok)(hls:∀a∈ls,a.Ok):(fZ t ls).1.Ok:=by
 unfold fZ;split
 ·split;·exact zKx
  ·split;·exact zIt ls hls t 0 8192 false ho
   ·exact zKx
 ·exact zKx
def cC:Nat->Int->Int->yV->Int->Int->yV->Option (yV×Tm×Int)|0,_,_,_,_,_,_=>none|f+1,d,e,g,b,c,a=>if decide (e<d)then if b !=3 then some ([],(Tm.mk 0 0 []),6)else zV a 0>>=λx10=>yZ 40 g [x10]>>=λl12=>zV a 1>>=λx14=>cC f d (xF (e+1)) l12 x14.k x14.n x14.sub else some (g,(Tm.mk b c a),0)
def zBu(f:Nat)(m:Tm)(d:Int):Option (yV×Tm×Int):=dV f m>>=λr1=>if r1 then if decide (d<0)then some ([],(Tm.mk 0 0 []),5)else if decide (d>24)then some ([],(Tm.mk 0 0 []),2)else e64 f m>>=λr6=>cC f d 0 [] r6.k r6.n r6.sub else some ([],(Tm.mk 0 0 []),5)
theorem zSa:∀f:Nat,∀d e g b c a,Lz (cC f d e g b c a) 0 f160 (pt 65461 f160) (λj=>sp j 45 0 [(5,.mp 0 0),(7,zP zA g (.st 0 3)),(8,.mp 1 0),(24,ai d),(25,ai e)]) ⟨[(0,.cells [ai 0,ai 0,zP zA ([]:yV) .nl]),(1,.cells [ai b,ai c,zP zA a .no])],2,[0],1,[]⟩ (λr=>.tup [.sl (zC zA r.1) r.1.length .no,yY r.2.1,ai r.2.2]) (λ_=>[]) 0 [.blk 1,.seq (pt 1023 f160)]:=wF (λ_ _ _ _ _ _=>lN) λf ih=>λd e g b c a=>lw λ_=>rB 0 (rB 1 (lE 1)<|rA 1 (wE (o:=.no)) λx10=>rS (oS 1 (xR wC [x10]))<|rW (λh13=>oP 0 (vZ h13 (by simp))) λ_=>rA 1 (wE (o:=.no)) λ_=>lH 3 [] [0,1] [1] [5,7,8,24,25] (ih _ _ _ _ _ _))<|lE 2
theorem zPr{f m d}:Cz (zBu f m d) 160 [] [yY m,ai d] (λr=>.tup [.sl (zC zA r.1) r.1.length .no,yY r.2.1,ai r.2.2]) (λ_=>[]) 0:=fw func160<|rK 1 [] aA (λ_=>rB 1 (fE 1)<|rB 0 (fE 1)<|rC 1 [] c64 λ_=>fH 1 [(none,7,3)] [1,2] [0] [5,7,8,24,25] (zSa _ _ _ _ _ _ _)) λ_=>fE 2
def cD:Nat->Tm->Int->Int->Int->yV->Option (yV×Tm×Int)|0,_,_,_,_,_=>none|e+1,d,f,b,c,a=>if b==3 then if(a.length:Int)==2 then if decide (f<=24)then zV a 1>>=λx4=>cD e d (xF (f+1)) x4.k x4.n x4.sub else zBu e d f>>=λr6=>some (r6.1,r6.2.1,r6.2.2)else zBu e d f>>=λr8=>some (r8.1,r8.2.1,r8.2.2)else zBu e d f>>=λr10=>some (r10.1,r10.2.1,r10.2.2)
def zIs(e:Nat)(d:Tm):Option (yV×Tm×Int):=cD e d 0 d.k d.n d.sub
theorem zSA:∀e:Nat,∀d f b c a,Lz (cD e d f b c a) 0 f119 (pt 4021 f119) (λj=>sp j 34 0 [(1,.mp 0 0),(3,.mp 1 0),(5,ai f),(6,.mp 2 0)]) ⟨[(0,.cells [ai d.k,ai d.n,zP zA d.sub .no]),(1,.cells [ai 0,ai 0,zP zA ([]:yV) .nl]),(2,.cells [ai b,ai c,zP zA a .no])],3,[],0,[]⟩ (λr=>.tup [.sl (zC zA r.1) r.1.length .no,yY r.2.1,ai r.2.2]) (λ_=>[]) 0 [.blk 0,.seq (pt 63 f119)]:=wF (λ_ _ _ _ _=>lN) λe ih=>λd f b c a=>lw λ_=>rB 1 (rB 2 (rB 0 (rA 4 (wE (o:=.no)) λ_=>lH 2 [] [0,1,3] [] [1,3,5,6] (ih _ _ _ _ _))<|rC 1 [] zPr λ_=>lE 4)<|rC 1 [] zPr λ_=>lE 4)<|rC 1 [] zPr λ_=>lE 4
theorem zSB{e d}:Cz (zIs e d) 119 [] [yY d] (λr=>.tup [.sl (zC zA r.1) r.1.length .no,yY r.2.1,ai r.2.2]) (λ_=>[]) 0:=fw func119<|fH 2 [] [0,1,2] [] [1,3,5,6] (zSA _ _ _ _ _ _)
def cE:Nat->Int->Int->(Tm×yV)->Int->Option (Bool)
 |0,_,_,_,_=>none|d+1,b,c,r1,a=>if decide (a<b)then zV r1.2 a>>=λx7=>if x7.k !=1 then some false else if x7.n !=(xF ((xF (c-1))-a))then some false else cE d b c r1 (xF (a+1))else some true
def zMp(d:Nat)(e:Tm)(f b g c:Int):Option (Bool):=A0 d e>>=λr1=>if r1.1.k !=6 then some false else if r1.1.n !=f then some false else if(r1.2.length:Int)!=(xF (b+g))then some false else cE d b c r1 0
theorem zSC:∀d:Nat,∀b c r1 a,Lz (cE d b c r1 a) 0 f164 (pt 16309 f164) (λj=>sp j 59 0 [(4,ai c),(12,zP zA r1.2 .no),(36,ai b),(37,ai a)]) ⟨[],0,[],0,[]⟩ (λr=>ab r) (λ_=>[]) 0 [.blk 0,.seq (pt 255 f164)]:=wF (λ_ _ _ _=>lN) λd ih=>λb c r1 a=>lw λ_=>rB 0 (rH λ_ h8=>rS (oA 0 (wE (o:=.no) h8))<|rB 1 (lE 0)<|rS (oA 0 (wE (o:=.no) h8))<|rB 3 (lE 0)<|lH 1 [] [] [] [4,12,36,37] (ih _ _ _ _))<|lE 0
theorem zWq{d e f b g c}:Cz (zMp d e f b g c) 164 [] [yY e,ai f,ai b,ai g,ai c] (λr=>ab r) (λ_=>[]) 0:=fw func164<|rC 1 [] zFo λ_=>rB 4 (fE 0)<|rB 1 (fE 0)<|rB 2 (fE 0)<|fH 0 [] [] [] [4,12,36,37] (zSC _ _ _ _ _)
def jK:Nat->Tm->Option (List Tm×Tm)|0,t=>some ([],t)|n+1,.mk k _ [a,b]=>if k=3 then(jK n b).map λr=>(a::r.1,r.2)else none|_+1,_=>none
theorem X2(n:Nat)(m:Int)(a b:Tm):jK (n+1) (.mk 3 m [a,b])=(jK n b).map λr=>(a::r.1,r.2):=by rw[jK,if_pos rfl]
theorem F6{n:Nat}{t:Tm}(h:t.k≠3):jK (n+1) t=none:=by
 unfold jK;split;·rename_i h1;cases h1
 ·rename_i h1;exact if_neg h
 ·rfl
theorem iQ{t:Tm}(hg:xZ t=true)(h:t.k=3):∃a b,t=.mk 3 t.n [a,b]/\xZ a=true/\xZ b=true:=by obtain⟨k,n,l⟩:=t;have hh:=uD hg;have hs:=sY hh.1;replace h:k=3:=h;subst h;obtain⟨a,b,rfl⟩:=zSg (hs.2.2.2.2.2.1 (.inl rfl)).1;have hc:=vI hh.2;exact⟨a,b,rfl,hc.1,(vI hc.2).1⟩
def zDn(acc:List Tm):Option (List Tm×Tm)->List Tm×Tm×Int|none=>([],zT,6)|some r=>(acc++r.1,r.2,0)
theorem zMo(N:Nat)(hN:N<=24):∀(m v:Nat)(acc:List Tm)(x:Tm),v+m=N->xZ x=true->acc.length<=v->zH (λq=>cC q (N:Int) (v:Int) acc x.k x.n x.sub) (zDn acc (jK m x)):=by intro m;induction m with|zero=>intro v acc x hm hg ha;refine zH.succ ?_;simp only[cC];refine zH.ifF (decide_eq_false (by omega)) (zH.ret.eq ?_);rw[jK,zDn,rD];simp|succ m ih=>
 intro v acc x hm hg ha;refine zH.succ ?_;simp only[cC];refine zH.ifT (decide_eq_true (by omega)) ?_;by_cases h:x.k=3;·obtain⟨a,b,hx,hga,hgb⟩:=iQ hg h;refine zH.ifF (by simp[h]) ?_;rw[hx,X2];refine zH.pure (a:=a) rfl (zH.pure (yG (by simp<;>omega)) (zH.pure (a:=b) rfl ?_));rw[zW v (by omega)];refine(ih (v+1) (acc++[a]) b (by omega) hgb (by simp<;>omega)).eq ?_;cases jK m b<;>simp[zDn]
 ·rw[F6 h,zDn];exact zH.ifT (by simp[h]) zH.ret
def uL(t:Tm)(n:Int):List Tm×Tm×Int:=if zF t=true then(if n<0 then([],zT,5)else if n>24 then([],zT,2)else zDn [] (jK n.toNat t))else([],zT,5)
theorem F7(t:Tm)(n:Int)(ho:t.Ok):zH (λq=>zBu q t n) (uL t n):=by
 simp only[zBu];refine(xI t ho).bind ?_;unfold uL;by_cases h:zF t=true
 ·rw[if_pos h];refine zH.ifT h ?_;by_cases h1:n<0;·rw[if_pos h1];exact zH.ifT (decide_eq_true h1) zH.ret
  ·rw[if_neg h1];refine zH.ifF (decide_eq_false h1) ?_;by_cases h2:n>24;·rw[if_pos h2];exact zH.ifT (decide_eq_true h2) zH.ret
   ·rw[if_neg h2];refine zH.ifF (decide_eq_false h2) ((tU t ho).bind ?_);unfold nO;rw[if_pos h];have:=zMo n.toNat (by omega) n.toNat 0 [] t (by omega) (zM h).2.2 (by simp);rw[show((n.toNat:Nat):Int)=n by omega]at this;exact this
 ·rw[if_neg h];exact zH.ifF (by simpa using h) zH.ret
def uY:Tm->Nat|.mk k _ [_,b]=>if k=3 then uY b+1 else 0|_=>0
theorem F8(m:Int)(a b:Tm):uY (.mk 3 m [a,b])=uY b+1:=by rw[uY,if_pos rfl]
theorem zDm{t:Tm}(h:t.k≠3):uY t=0:=by
 unfold uY;split;·exact if_neg h
 ·rfl
theorem zPq{t:Tm}(h:t.sub.length≠2):uY t=0:=by
 unfold uY;split;·exact absurd rfl h
 ·rfl
def xC(t:Tm):List Tm×Tm×Int:=uL t ((min (uY t) 25:Nat):Int)
theorem zMn(p:Tm)(ho:p.Ok):∀(m v:Nat)(x:Tm),v+m=25->zH (λq=>cD q p (v:Int) x.k x.n x.sub) (uL p ((min (v+uY x) 25:Nat):Int)):=by intro m;induction m with|zero=>
 intro v x hm;refine zH.succ ?_;simp only[cD];have hv:v=25:=by omega
 subst hv;have hsp:zH (λq=>zBu q p ((25:Nat):Int)>>=λr6=>some (r6.1,r6.2.1,r6.2.2)) (uL p ((min (25+uY x) 25:Nat):Int)):=((F7 p _ ho).bind zH.ret).eq (by rw[show min (25+uY x) 25=25 by omega]);exact zH.iff (λ_=>zH.iff (λ_=>zH.ifF rfl hsp) λ_=>hsp) λ_=>hsp|succ m ih=>
 intro v x hm;refine zH.succ ?_;simp only[cD];have hsp:uY x=0->zH (λq=>zBu q p (v:Int)>>=λr6=>some (r6.1,r6.2.1,r6.2.2)) (uL p ((min (v+uY x) 25:Nat):Int)):=λh=>((F7 p _ ho).bind zH.ret).eq (by rw[h,show min (v+0) 25=v by omega]);by_cases h3:x.k=3
 ·refine zH.ifT (by simp[h3]) ?_;by_cases h2:x.sub.length=2
  ·refine zH.ifT (by simp[h2]) (zH.ifT (decide_eq_true (by omega)) ?_);obtain⟨k,n,l⟩:=x;replace h3:k=3:=h3;subst h3;obtain⟨a,b,rfl⟩:=zSg h2;refine zH.pure (a:=b) rfl ?_;rw[zW v (by omega),F8];exact(ih (v+1) b (by omega)).eq (by rw[show v+1+uY b=v+(uY b+1)by omega])
  ·exact zH.ifF (by simp<;>omega) (hsp (zPq h2))
 ·exact zH.ifF (by simp[h3]) (hsp (zDm h3))
theorem F9(t:Tm)(ho:t.Ok):zH (λq=>zIs q t) (xC t):=by simp only[zIs];exact(zMn t ho 25 0 t rfl).eq (by unfold xC;simp)
theorem zBM:∀(n:Nat)(t:Tm)(r:List Tm×Tm),xZ t=true->jK n t=some r->r.1.length=n/\uY t=n+uY r.2/\(xZ r.2=true/\r.2.nodes<=t.nodes/\r.2.high<=t.high)/\∀x∈r.1,xZ x=true/\x.nodes<=t.nodes/\x.high<=t.high
 |0,t,r,hg,h=>by rw[jK]at h;cases h;exact⟨rfl,by simp,⟨hg,Nat.le_refl _,Nat.le_refl _⟩,λx hx=>by cases hx⟩|n+1,t,r,hg,h=>by
  by_cases h3:t.k=3
  ·obtain⟨a,b,hx,hga,hgb⟩:=iQ hg h3;rw[hx]at h⊢;rw[X2]at h;obtain⟨r',h1,rfl⟩:=Option.map_eq_some_iff.1 h;have ih:=zBM n b r' hgb h1;rw[F8];simp only[Tm.nodes,xU,Tm.high,pO];refine⟨by simp[ih.1],by omega,⟨ih.2.2.1.1,by omega,by omega⟩,λx hx=>?_⟩;rcases List.mem_cons.1 hx with rfl|hx;·exact⟨hga,by omega,by omega⟩
   ·have:=ih.2.2.2 x hx;exact⟨this.1,by omega,by omega⟩
  ·rw[F6 h3]at h;cases h
theorem zBN{t:Tm}{n:Int}{l:List Tm}{y:Tm}(h:uL t n=(l,y,0)):zF t=true/\0<=n/\n<=24/\(l.length:Int)=n/\uY t=l.length+uY y/\zF y=true/\∀x∈l,zF x=true:=by
 unfold uL at h;split at h
 ·rename_i hs;split at h;·simp at h
  ·split at h;·simp at h
   ·cases hr:jK n.toNat t with|none=>rw[hr]at h;simp[zDn]at h|some r=>rw[hr]at h;simp only[zDn,List.nil_append,Prod.mk.injEq,and_true]at h;obtain⟨rfl,rfl⟩:=h;have hsp:=zM hs;have:=zBM _ _ _ hsp.2.2 hr;refine⟨hs,by omega,by omega,by omega,by omega,iP (by omega) (by omega) this.2.2.1.1,λx hx=>?_⟩;have hx:=this.2.2.2 x hx;exact iP (by omega) (by omega) hx.1
 ·simp at h
theorem pA{t:Tm}{l:List Tm}{y:Tm}(h:xC t=(l,y,0)):zF t=true/\l.length=uY t/\l.length<=24/\uY y=0/\zF y=true/\∀x∈l,zF x=true:=by have:=zBN h;refine⟨this.1,by omega,by omega,by omega,this.2.2.2.2.2.1,this.2.2.2.2.2.2⟩
def zFg:List Tm->Int->Bool|[],_=>true|a::l,n=>a.k==1&&a.n==n&&zFg l (n-1)
def pR(t:Tm)(of pars more binders:Int):Bool:=(yN t).k==6&&(yN t).n==of&&((xD t).length:Int)==pars+more&&zFg ((xD t).take pars.toNat) (binders-1)
theorem zFf(p:Tm×List Tm)(P:Nat)(binders:Int)(hP:P<=p.2.length)(hl:p.2.length<=8192)(hb:-1152921504606846976<=binders/\binders<=1152921504606846976):∀(m v:Nat),v+m=P->zH (λq=>cE q (P:Int) binders p (v:Int)) (zFg ((p.2.take P).drop v) (binders-1-v)):=by intro m;induction m with|zero=>intro v hm;refine zH.succ ?_;simp only[cE];refine zH.ifF (decide_eq_false (by omega)) (zH.ret.eq ?_);rw[List.drop_eq_nil_of_le (by simp<;>omega),zFg]|succ m ih=>
 intro v hm;refine zH.succ ?_;simp only[cE];have hv:v<(p.2.take P).length:=by simp<;>omega
 have hd:=List.drop_eq_getElem_cons hv;have hg:zV p.2 (v:Int)=some (p.2.take P)[v]:=by unfold zV;rw[if_pos (by omega),show(v:Int).toNat=v by omega,List.getElem?_eq_getElem (by omega)];simp
 generalize(p.2.take P)[v]=x at hd hg;refine zH.ifT (decide_eq_true (by omega)) (zH.pure hg ?_);rw[hd,zFg,yQ (x:=binders-1) (by omega) (by omega),yQ (x:=binders-1-v) (by omega) (by omega)];by_cases h1:x.k=1
 ·refine zH.ifF (by simp[h1]) ?_;by_cases h2:x.n=binders-1-v
  ·refine zH.ifF (by simp[h2]) ?_;rw[zW v (by omega)];refine(ih (v+1) (by omega)).eq ?_;rw[show binders-1-((v+1:Nat):Int)=binders-1-v-1 by omega];simp[h1,h2]
  ·exact zH.ifT (by simp[h2]) (zH.ret.eq (by simp[h2]))
 ·exact zH.ifT (by simp[h1]) (zH.ret.eq (by simp[h1]))
theorem A3(t:Tm)(of pars more binders:Int)(hs:zF t=true)(h0:0<=pars/\pars<=1152921504606846976)(h1:0<=more/\more<=1152921504606846976)(hb:-1152921504606846976<=binders/\binders<=1152921504606846976):zH (λq=>zMp q t of pars more binders) (pR t of pars more binders):=by
 simp only[zMp];refine(lM t hs).bind ?_;unfold pR;by_cases h2:(yN t).k=6
 ·refine zH.ifF (by simp[h2]) ?_;by_cases h3:(yN t).n=of
  ·refine zH.ifF (by simp[h3]) ?_;rw[yQ (x:=pars+more) (by omega) (by omega)];by_cases h4:((xD t).length:Int)=pars+more
   ·refine zH.ifF (by simp[h4]) ?_;have hl:=tS t (zM hs).2.2;have hn:=(zM hs).1;have:=zFf (yN t,xD t) pars.toNat binders (by show _<=(xD t).length;omega) (by show(xD t).length<=_;omega) hb pars.toNat 0 (by omega);rw[show((pars.toNat:Nat):Int)=pars by omega]at this;exact this.eq (by simp[h2,h3,h4])
   ·exact zH.ifT (by simp[h4]) (zH.ret.eq (by simp[h4]))
  ·exact zH.ifT (by simp[h3]) (zH.ret.eq (by simp[h3]))
 ·exact zH.ifT (by simp[h2]) (zH.ret.eq (by simp[h2]))
def zPp(b:Nat)(a:Int):Option (Bool):=if decide (a>=0)then if decide (a<=1114111)then if decide (a<55296)then some true else some (decide (a>57343))else some false else some false
theorem zZk{b a}:Cz (zPp b a) 195 [] [ai a] (λr=>ab r) (λ_=>[]) 0:=fw func195<|rB 0 (rB 0 (rB 0 (fE 0)<|fE 1)<|fE 0)<|fE 0
def zSD(b:Nat)(a:U8):Option (Int×Int):=if decide (a<128)then some (1,(xF (a)))else if decide (a>=192)then if decide (a<224)then some (2,(xF ((IntKind.u8.wrap ((BitVec.ofInt (IntKind.bits .u8) a&&&BitVec.ofInt (IntKind.bits .u8) 31).toNat:Nat)))))else if decide (a>=224)then if decide (a<240)then some (3,(xF ((IntKind.u8.wrap ((BitVec.ofInt (IntKind.bits .u8) a&&&BitVec.ofInt (IntKind.bits .u8) 15).toNat:Nat)))))else if decide (a>=240)then if decide (a<248)then some (4,(xF ((IntKind.u8.wrap ((BitVec.ofInt (IntKind.bits .u8) a&&&BitVec.ofInt (IntKind.bits .u8) 7).toNat:Nat)))))else some (0,0)else some (0,0)else if decide (a>=240)then if decide (a<248)then some (4,(xF ((IntKind.u8.wrap ((BitVec.ofInt (IntKind.bits .u8) a&&&BitVec.ofInt (IntKind.bits .u8) 7).toNat:Nat)))))else some (0,0)else some (0,0)else if decide (a>=224)then if decide (a<240)then some (3,(xF ((IntKind.u8.wrap ((BitVec.ofInt (IntKind.bits .u8) a&&&BitVec.ofInt (IntKind.bits .u8) 15).toNat:Nat)))))else if decide (a>=240)then if decide (a<248)then some (4,(xF ((IntKind.u8.wrap ((BitVec.ofInt (IntKind.bits .u8) a&&&BitVec.ofInt (IntKind.bits .u8) 7).toNat:Nat)))))else some (0,0)else some (0,0)else if decide (a>=240)then if decide (a<248)then some (4,(xF ((IntKind.u8.wrap ((BitVec.ofInt (IntKind.bits .u8) a&&&BitVec.ofInt (IntKind.bits .u8) 7).toNat:Nat)))))else some (0,0)else some (0,0)
theorem yBj{b a}:Cz (zSD b a) 219 [] [.val (.int .u8 a)] (λr=>.tup [ai r.1,ai r.2]) (λ_=>[]) 0:=fw func219<|rB 0 (fE 1)<|rB 0 (rB 0 (fE 2)<|rB 0 (rB 0 (fE 2)<|rB 0 (rB 0 (fE 2)<|fE 0)<|fE 0)<|rB 0 (rB 0 (fE 2)<|fE 0)<|fE 0)<|rB 0 (rB 0 (fE 2)<|rB 0 (rB 0 (fE 2)<|fE 0)<|fE 0)<|rB 0 (rB 0 (fE 2)<|fE 0)<|fE 0
def zSE(b:Nat)(a:Int):Option (Int):=if decide (a>=65536)then some 4 else if decide (a>=2048)then some 3 else if decide (a>=128)then some 2 else some 1
theorem yBi{b a}:Cz (zSE b a) 220 [] [ai a] (λr=>ai r) (λ_=>[]) 0:=fw func220<|rB 0 (fE 3)<|rB 0 (fE 2)<|rB 0 (fE 1)<|fE 0
def cF:Nat->ByteArray->Int->(Int×Int)->Int->Int->Option (Int×Int×Int)
 |0,_,_,_,_,_=>none|c+1,b,a,r5,d,e=>if decide (e<r5.1)then u5 b (xF (a+e))>>=λx10=>if(IntKind.u8.wrap ((BitVec.ofInt (IntKind.bits .u8) x10&&&BitVec.ofInt (IntKind.bits .u8) 192).toNat:Nat))!=128 then some (0,0,1)else cF c b a r5 (IntKind.i64.wrap ((BitVec.ofInt (IntKind.bits .i64) (xF (d*2^(min (Int.toNat 6) (IntKind.bits .i64))))|||BitVec.ofInt (IntKind.bits .i64) (xF ((IntKind.u8.wrap ((BitVec.ofInt (IntKind.bits .u8) x10&&&BitVec.ofInt (IntKind.bits .u8) 63).toNat:Nat))))).toNat:Nat)) (xF (e+1))else zPp c d>>=λr13=>if r13 then zSE c d>>=λr16=>if r16 !=r5.1 then some (0,0,1)else some (d,r5.1,0)else some (0,0,1)
def zSF(c:Nat)(b:ByteArray)(a:Int):Option (Int×Int×Int):=if decide (a<0)then some (0,0,1)else if decide (a>=(b.size:Int))then some (0,0,1)else u5 b a>>=λx3=>zSD c x3>>=λr5=>if r5.1==0 then some (0,0,1)else if decide (r5.1>(xF ((b.size:Int)-a)))then some (0,0,1)else cF c b a r5 r5.2 1
theorem zSG:∀c:Nat,∀b a r5 d e,Lz (cF c b a r5 d e) 0 f193 (pt 65461 f193) (λj=>sp j 66 0 [(0,at' b),(1,ai a),(7,ai r5.1),(8,ai d),(9,ai e)]) ⟨[],0,[],0,[]⟩ (λr=>.tup [ai r.1,ai r.2.1,ai r.2.2]) (λ_=>[]) 0 [.blk 0,.seq (pt 1023 f193)]:=wF (λ_ _ _ _ _=>lN) λc ih=>λb a r5 d e=>lw λ_=>rB 0 (rA 1 zOJ λ_=>rB 1 (lE 0)<|lH 5 [] [] [] [0,1,7,8,9] (ih _ _ _ _ _))<|rK 0 [] zZk (λ_=>rC 1 [] yBi λ_=>rB 0 (lE 0)<|lE 0) λ_=>lE 1
theorem yBh{c b a}:Cz (zSF c b a) 193 [] [at' b,ai a] (λr=>.tup [ai r.1,ai r.2.1,ai r.2.2]) (λ_=>[]) 0:=fw func193<|rB 0 (fE 0)<|rB 1 (fE 0)<|rA 0 zOJ λ_=>rC 0 [] yBj λ_=>rB 2 (fE 0)<|rB 2 (fE 0)<|fH 0 [] [] [] [0,1,7,8,9] (zSG _ _ _ _ _ _)
def cG:Nat->ByteArray->yE->Int->Option (yE×Int×Int)|0,_,_,_=>none|b+1,a,d,c=>if decide (c<(a.size:Int))then zSF b a c>>=λr3=>if r3.2.2 !=0 then some ([],c,r3.2.2)else yZ 8 d [r3.1]>>=λl6=>cG b a l6 (xF (c+r3.2.1))else some (d,(a.size:Int),0)
def zSH(b:Nat)(a:ByteArray):Option (yE×Int×Int):=if decide ((a.size:Int)>65535)then some ([],0,2)else cG b a [] 0
theorem zSI:∀b:Nat,∀a d c,Lz (cG b a d c) 0 f155 (pt 16309 f155) (λj=>sp j 38 0 [(0,at' a),(5,zP zY d (.st 0 1)),(6,ai c)]) ⟨[],0,[0],1,[]⟩ (λr=>.tup [.sl (zC zY r.1) r.1.length .no,ai r.2.1,ai r.2.2]) (λ_=>[]) 0 [.blk 0,.seq (pt 255 f155)]:=wF (λ_ _ _=>lN) λb ih=>λa d c=>lw λ_=>rB 1 (rC 0 [] yBh λ_=>rB 3 (lE 0)<|rW (λh7=>oP 1 (kI h7 (by simp))) λ_=>lH 1 [] [] [1] [0,5,6] (ih _ _ _))<|lE 1
theorem yBg{b a}:Cz (zSH b a) 155 [] [at' a] (λr=>.tup [.sl (zC zY r.1) r.1.length .no,ai r.2.1,ai r.2.2]) (λ_=>[]) 0:=fw func155<|rB 1 (fE 0)<|fH 0 [(none,5,1)] [] [0] [0,5,6] (zSI _ _ _ _)
def zSJ(b:Nat)(a:ByteArray):Option (Bool):=if a.toList==(⟨#[100,97,116,97]⟩:ByteArray).toList then some true else if a.toList==(⟨#[114,101,99,111,114,100]⟩:ByteArray).toList then some true else if a.toList==(⟨#[100,101,102]⟩:ByteArray).toList then some true else if a.toList==(⟨#[83,101,116]⟩:ByteArray).toList then some true else some false
theorem yBf{b a}:Cz (zSJ b a) 156 [] [at' a] (λr=>ab r) (λ_=>[]) 0:=fw func156<|rB 0 (fE 0)<|rB 0 (fE 0)<|rB 0 (fE 0)<|rB 0 (fE 0)<|fE 0
def zSK(b:Nat)(a:Int):Option (Bool):=if a==40 then some true else if a==41 then some true else if a==123 then some true else if a==125 then some true else if a==58 then some true else if a==61 then some true else if a==46 then some true else if a==44 then some true else if a==59 then some true else if a==124 then some true else if a==92 then some true else if a==45 then some true else if a==62 then some true else if a==955 then some true else if a==8594 then some true else some false
theorem yBe{b a}:Cz (zSK b a) 196 [] [ai a] (λr=>ab r) (λ_=>[]) 0:=fw func196<|rB 0 (fE 0)<|rB 0 (fE 0)<|rB 0 (fE 0)<|rB 0 (fE 0)<|rB 0 (fE 0)<|rB 0 (fE 0)<|rB 0 (fE 0)<|rB 0 (fE 0)<|rB 0 (fE 0)<|rB 0 (fE 0)<|rB 0 (fE 0)<|rB 0 (fE 0)<|rB 0 (fE 0)<|rB 0 (fE 0)<|rB 0 (fE 0)<|fE 0
def zPo(b:Nat)(a:Int):Option (Bool):=if decide (a<128)then if decide (a>=97)then if decide (a<=122)then some true else if decide (a>=65)then some (decide (a<=90))else some false else if decide (a>=65)then some (decide (a<=90))else some false else zPp b a>>=λr6=>if r6 then zSK b a>>=λr9=>if r9 then some false else if a !=160 then if decide (a<8192)then some true else some (decide (a>8303))else some false else some false
theorem zZj{b a}:Cz (zPo b a) 158 [] [ai a] (λr=>ab r) (λ_=>[]) 0:=fw func158<|rB 0 (rB 0 (rB 0 (fE 0)<|rB 0 (fE 1)<|fE 0)<|rB 0 (fE 1)<|fE 0)<|rK 0 [] zZk (λ_=>rK 0 [] yBe (λ_=>fE 1) λ_=>rB 1 (rB 0 (fE 0)<|fE 1)<|fE 0) λ_=>fE 0
def zSL(b:Nat)(a:Int):Option (Bool):=if decide (a>=48)then some (decide (a<=57))else some false
theorem yBd{b a}:Cz (zSL b a) 194 [] [ai a] (λr=>ab r) (λ_=>[]) 0:=fw func194<|rB 0 (fE 1)<|fE 0
def zSM(b:Nat)(a:Int):Option (Bool):=zPo b a>>=λr1=>if r1 then some true else zSL b a>>=λr4=>if r4 then some true else if a==95 then some true else some (a==39)
theorem yBc{b a}:Cz (zSM b a) 157 [] [ai a] (λr=>ab r) (λ_=>[]) 0:=fw func157<|rK 0 [] zZj (λ_=>fE 0) λ_=>rK 0 [] yBd (λ_=>fE 0) λ_=>rB 0 (fE 0)<|fE 1
def cH:Nat->(yE×Int×Int)->Int->Option (Bool)
 |0,_,_=>none|b+1,r1,a=>if decide (a<(r1.1.length:Int))then zV r1.1 a>>=λx10=>zSM b x10>>=λr12=>if r12 then cH b r1 (xF (a+1))else some false else zV r1.1 0>>=λx15=>zPo b x15>>=λr17=>if r17 then some true else if x15==95 then some (decide ((r1.1.length:Int)>1))else some false
def zMm(b:Nat)(c:ByteArray):Option (Bool):=zSH b c>>=λr1=>if r1.2.2 !=0 then some false else if(r1.1.length:Int)==0 then some false else if decide ((c.size:Int)>40)then some false else zSJ b c>>=λr6=>if r6 then some false else cH b r1 0
theorem zSN:∀b:Nat,∀r1 a,Lz (cH b r1 a) 0 f113 (pt 16309 f113) (λj=>sp j 55 0 [(3,zP zY r1.1 .no),(30,zP zY r1.1 .no),(31,ai (r1.1.length:Int)),(32,ai a)]) ⟨[],0,[],0,[]⟩ (λr=>ab r) (λ_=>[]) 0 [.blk 0,.seq (pt 255 f113)]:=wF (λ_ _=>lN) λb ih=>λr1 a=>lw λ_=>rB 0 (rA 0 (gQ (o:=.no)) λ_=>rK 1 [] yBc (λ_=>lH 2 [] [] [] [3,30,31,32] (ih _ _)) λ_=>lE 1)<|rH λ_ h16=>rS (oA 0 (gQ (o:=.no) h16))<|rK 1 [] zZj (λ_=>lE 0) λ_=>rS (oA 0 (gQ (o:=.no) h16))<|rB 1 (lE 2)<|lE 0
theorem yBb{b c}:Cz (zMm b c) 113 [] [at' c] (λr=>ab r) (λ_=>[]) 0:=fw func113<|rC 0 [] yBg λ_=>rB 3 (fE 0)<|rB 1 (fE 0)<|rB 1 (fE 0)<|rK 0 [] yBf (λ_=>fE 0) λ_=>fH 1 [] [] [] [3,30,31,32] (zSN _ _ _)
def L7:Nat->(List ByteArray)->Int->(List (ByteArray×Int))->Option (Bool)|0,_,_,_=>none|c+1,b,d,a=>if decide (d<(b.length:Int))then zV b d>>=λx2=>if decide ((zEL a x2)>0)then some false else L7 c b (xF (d+1)) (u4 a x2 (xF ((zEL a x2)+1)))else some true
def e89(c:Nat)(b:List ByteArray):Option (Bool):=L7 c b 0 ([]:List (ByteArray×Int))
theorem zWp:∀c:Nat,∀b d a,Lz (L7 c b d a) 0 f89 (pt 4021 f89) (λj=>sp j 22 0 [(3,.obj 0),(7,zP K4 b .no),(8,ai (b.length:Int)),(9,ai d)]) ⟨[(0,zDy a)],1,[],0,[]⟩ (λr=>ab r) (λ_=>[]) 0 [.blk 0,.seq (pt 63 f89)]:=wF (λ_ _ _=>lN) λc ih=>λb d a=>lw λ_=>rB 0 (rA 0 (zZs (o:=.no)) λx2=>rS (oL 1 (zVy a x2))<|rB 0 (lE 0)<|rS (oL 0 (zVy a x2))<|rS (oU 1 (zZq a x2 (xF ((zEL a x2)+1))))<|lH 1 [] [0] [] [3,7,8,9] (ih _ _ _))<|lE 0
theorem c89{c b}:Cz (e89 c b) 89 [] [zP K4 b .no] (λr=>ab r) (λ_=>[]) 0:=fw func89<|fH 1 [] [0] [] [3,7,8,9] (zWp _ _ _ _)
theorem zPn(c:Int):zG (λq=>zSD q c) λr=>0<=r.1/\r.1<=4:=by simp only[zSD];repeat'(first|exact zG.ret ⟨by simp,by simp⟩|refine zG.ite (λ_=>?_) (λ_=>?_))
theorem zMl(n:Int):zG (λq=>zSE q n) λ_=>True:=by simp only[zSE];repeat'(first|exact zG.ret trivial|refine zG.ite (λ_=>?_) (λ_=>?_))
theorem n7(n:Int):zG (λq=>zPp q n) λ_=>True:=by simp only[zPp];repeat'(first|exact zG.ret trivial|refine zG.ite (λ_=>?_) (λ_=>?_))
theorem zFe{s:ByteArray}{i:Int}(h0:0<=i)(h1:i<s.size):∃c,u5 s i=some c:=by unfold u5;simp[h0,h1]
theorem zMk(s:ByteArray)(a:Int)(w:Int×Int)(ha:0<=a)(hs:s.size<=65535)(hw:a+w.1<=s.size)(hw1:1<=w.1):∀(m:Nat)(i n:Int),1<=i->i+m=w.1->zG (λq=>cF q s a w n i) λr=>r.2.2=0->r.2.1=w.1:=by intro m;induction m with|zero=>intro i n hi hm;refine zG.succ ?_;simp only[cF];refine zG.ite (λh=>absurd (of_decide_eq_true h) (by omega)) λ_=>(n7 n).bind λb _=>?_;refine zG.ite (λ_=>(zMl n).bind λc _=>zG.ite (λ_=>zG.ret (by simp)) λ_=>zG.ret (by simp)) λ_=>zG.ret (by simp)|succ m ih=>intro i n hi hm;refine zG.succ ?_;simp only[cF];obtain⟨c,hc⟩:=zFe (s:=s) (i:=a+i) (by omega) (by omega);refine zG.ite (λ_=>zG.pure (a:=c) (by rw[yQ (by omega) (by omega)];exact hc) (zG.ite (λ_=>zG.ret (by simp)) λ_=>?_)) λh=>absurd (of_decide_eq_false h) (by omega);rw[yQ (x:=i+1) (by omega) (by omega)];exact ih (i+1) _ (by omega) (by omega)
theorem zPm(s:ByteArray)(a:Int)(ha:0<=a)(hs:s.size<=65535):zG (λq=>zSF q s a) λr=>r.2.2=0->1<=r.2.1/\a+r.2.1<=s.size:=by
 simp only[zSF];refine zG.ite (λ_=>zG.ret (by simp)) λ_=>zG.ite (λ_=>zG.ret (by simp)) λh=>?_;have h1:=of_decide_eq_false h;obtain⟨c,hc⟩:=zFe (s:=s) (i:=a) ha (by omega);refine zG.pure hc ((zPn c).bind λw hw=>zG.ite (λ_=>zG.ret (by simp)) λh2=>zG.ite (λ_=>zG.ret (by simp)) λh3=>?_);have h4:=of_decide_eq_false h3;rw[yQ (by omega) (by omega)]at h4;have h5:w.1≠0:=by simpa using h2
 refine(zMk s a w ha hs (by omega) (by omega) (w.1-1).toNat 1 w.2 (by omega) (by omega)).mono λr hr h6=>?_;have:=hr h6;omega
theorem zPl(s:ByteArray)(hs:s.size<=65535):∀(m:Nat)(a:Int)(acc:List Int),0<=a->a<=s.size->(s.size:Int)-a<=m->(acc.length:Int)<=a->zG (λq=>cG q s acc a) λr=>r.1.length<=65535:=by intro m;induction m with|zero=>intro a acc h0 h1 hm hl;refine zG.succ ?_;simp only[cG];refine zG.ite (λh=>absurd (of_decide_eq_true h) (by omega)) λ_=>zG.ret (by show acc.length<=65535;omega)|succ m ih=>intro a acc h0 h1 hm hl;refine zG.succ ?_;simp only[cG];refine zG.ite (λ_=>(zPm s a h0 hs).bind λr hr=>zG.ite (λ_=>zG.ret (by simp)) λh=>zG.pure (yG (by simp<;>omega)) ?_) λ_=>zG.ret (by show acc.length<=65535;omega);have:=hr (by simpa using h);rw[yQ (by omega) (by omega)];exact ih (a+r.2.1) _ (by omega) (by omega) (by omega) (by simp;omega)
theorem zSO(s:ByteArray):zG (λq=>zSH q s) λr=>r.1.length<=65535:=by simp only[zSH];refine zG.ite (λ_=>zG.ret (by simp)) λh=>?_;have:=of_decide_eq_false h;exact zPl s (by omega) s.size 0 [] (by omega) (by omega) (by omega) (by simp)
theorem zPk(n:Int):zG (λq=>zSK q n) λ_=>True:=by simp only[zSK];repeat'(first|exact zG.ret trivial|refine zG.ite (λ_=>?_) (λ_=>?_))
theorem n8(n:Int):zG (λq=>zPo q n) λ_=>True:=by simp only[zPo];repeat'(first|exact zG.ret trivial|refine zG.ite (λ_=>?_) (λ_=>?_)|refine zG.bind (n7 n) (λ_ _=>?_)|refine zG.bind (zPk n) (λ_ _=>?_))
theorem zMj(n:Int):zG (λq=>zSL q n) λ_=>True:=by simp only[zSL];repeat'(first|exact zG.ret trivial|refine zG.ite (λ_=>?_) (λ_=>?_))
theorem zMi(n:Int):zG (λq=>zSM q n) λ_=>True:=by simp only[zSM];repeat'(first|exact zG.ret trivial|refine zG.ite (λ_=>?_) (λ_=>?_)|refine zG.bind (n8 n) (λ_ _=>?_)|refine zG.bind (zMj n) (λ_ _=>?_))
theorem zFd(s:ByteArray):zG (λq=>zSJ q s) λ_=>True:=by simp only[zSJ];repeat'(first|exact zG.ret trivial|refine zG.ite (λ_=>?_) (λ_=>?_))
theorem S6(r1:List Int×Int×Int)(h0:0<r1.1.length)(h1:r1.1.length<=65535):∀(l:List Int)(v:Nat),r1.1.drop v=l->zG (λq=>cH q r1 (v:Int)) λ_=>True
 |[],v,hd=>by
  refine zG.succ ?_;simp only[cH];obtain⟨y,hy⟩:∃y,zV r1.1 0=some y:=⟨_,by unfold zV;rw[if_pos (by omega)];exact List.getElem?_eq_getElem h0⟩;refine zG.ite (λh=>?_) λ_=>zG.pure hy ?_;·rw[yB hd]at h;cases h
  ·repeat'(first|exact zG.ret trivial|refine zG.ite (λ_=>?_) (λ_=>?_)|refine zG.bind (n8 y) (λ_ _=>?_))|x::l,v,hd=>by
  have hlt:=yF hd;refine zG.succ ?_;simp only[cH];refine zG.ite (λ_=>zG.pure (zZ hd) ((zMi x).bind λb _=>zG.ite (λ_=>?_) λ_=>zG.ret trivial)) λh=>?_
  ·rw[zW v (by omega)];exact S6 r1 h0 h1 l (v+1) (zS hd)
  ·rw[yA hd]at h;cases h
theorem zIr(s:ByteArray):zG (λq=>zMm q s) λ_=>True:=by simp only[zMm];refine(zSO s).bind λr hr=>zG.ite (λ_=>zG.ret trivial) λ_=>zG.ite (λ_=>zG.ret trivial) λh=>zG.ite (λ_=>zG.ret trivial) λ_=>(zFd s).bind λ_ _=>zG.ite (λ_=>zG.ret trivial) λ_=>?_;exact S6 r (by simp at h;exact List.length_pos_iff.2 h) hr r.1 0 rfl
theorem aC:∀(r l:List ByteArray)(v:Nat)(m:List (ByteArray×Int)),l.drop v=r->l.length<=65535->zG (λq=>L7 q l (v:Int) m) λ_=>True
 |[],l,v,m,hd,hl=>by refine zG.succ ?_;simp only[L7];refine zG.ite (λh=>?_) λ_=>zG.ret trivial;rw[yB hd]at h;cases h|x::r,l,v,m,hd,hl=>by
  have hlt:=yF hd;refine zG.succ ?_;simp only[L7];refine zG.ite (λ_=>zG.pure (zZ hd) (zG.ite (λ_=>zG.ret trivial) λ_=>?_)) λh=>?_;·rw[zW v (by omega)];exact aC r l (v+1) _ (zS hd) hl
  ·rw[yA hd]at h;cases h
theorem zDl(l:List ByteArray)(hl:l.length<=65535):zG (λq=>e89 q l) λ_=>True:=by simp only[e89];exact aC l l 0 _ rfl hl
def zPj(b:Nat)(a:Tm)(c:Int):Option (Bool):=e68 b a 0 c>>=λr1=>if r1 then e69 b a>>=λr4=>some ((r4.length:Int)==0)else some false
theorem zZh{b a c}:Cz (zPj b a c) 114 [] [yY a,ai c] (λr=>ab r) (λ_=>[]) 0:=fw func114<|rK 1 [] c68 (λ_=>rC 1 [] c69 λ_=>fE 2) λ_=>fE 0
def zPi(b:Nat)(a:Tm):Option (Bool):=if a.k==0 then if a.n==0 then some ((a.sub.length:Int)==0)else some false else some false
theorem zZg{b a}:Cz (zPi b a) 159 [] [yY a] (λr=>ab r) (λ_=>[]) 0:=fw func159<|rB 1 (rB 1 (fE 3)<|fE 0)<|fE 0
def cI:Nat->yE->Int->Int->Option (Bool)|0,_,_,_=>none|c+1,a,b,d=>if decide (d<(a.length:Int))then zV a d>>=λx2=>if x2 !=(xF (b+d))then some false else cI c a b (xF (d+1))else some true
def zPh(c:Nat)(a:yE)(b:Int):Option (Bool):=cI c a b 0
theorem zSP:∀c:Nat,∀a b d,Lz (cI c a b d) 0 f161 (pt 949 f161) (λj=>sp j 20 0 [(1,ai b),(7,zP zY a .no),(8,ai (a.length:Int)),(9,ai d)]) ⟨[],0,[],0,[]⟩ (λr=>ab r) (λ_=>[]) 0 [.blk 0,.seq (pt 15 f161)]:=wF (λ_ _ _=>lN) λc ih=>λa b d=>lw λ_=>rB 0 (rA 0 (gQ (o:=.no)) λ_=>rB 2 (lE 0)<|lH 1 [] [] [] [1,7,8,9] (ih _ _ _))<|lE 0
theorem zZf{c a b}:Cz (zPh c a b) 161 [] [zP zY a .no,ai b] (λr=>ab r) (λ_=>[]) 0:=fw func161<|fH 1 [] [] [] [1,7,8,9] (zSP _ _ _ _)
def zMh(d:Nat)(b:xJ)(a c:Int):Option (Bool):=if decide (a>=0)then if decide (a<(b.length:Int))then zV b a>>=λx3=>some (x3.kind==c)else some false else some false
theorem zWo{d b a c}:Cz (zMh d b a c) 197 [] [zP xE b .no,ai a,ai c] (λr=>ab r) (λ_=>[]) 0:=fw func197<|rB 0 (rB 1 (rA 0 (wO (o:=.no)) λ_=>fE 2)<|fE 0)<|fE 0
def cJ:Nat->xJ->Int->yE->Int->Int->Option (Bool)
 |0,_,_,_,_,_=>none|f+1,c,d,b,e,a=>if decide (a<(b.length:Int))then zV b a>>=λx2=>zMh f c x2 e>>=λr4=>if r4 then zV c x2>>=λx7=>if x7.fam !=d then some false else if x7.place !=a then some false else cJ f c d b e (xF (a+1))else some false else some true
def zPg(f:Nat)(c:xJ)(d:Int)(b:yE)(e:Int):Option (Bool):=cJ f c d b e 0
theorem zSQ:∀f:Nat,∀c d b e a,Lz (cJ f c d b e a) 0 f162 (pt 949 f162) (λj=>sp j 42 0 [(0,zP xE c .no),(1,ai d),(3,ai e),(11,zP zY b .no),(12,ai (b.length:Int)),(13,ai a)]) ⟨[],0,[],0,[]⟩ (λr=>ab r) (λ_=>[]) 0 [.blk 0,.seq (pt 15 f162)]:=wF (λ_ _ _ _ _=>lN) λf ih=>λc d b e a=>lw λ_=>rB 0 (rA 0 (gQ (o:=.no)) λ_=>rK 1 [] zWo (λ_=>rH λ_ h8=>rS (oA 1 (wO (o:=.no) h8))<|rB 1 (lE 0)<|rS (oA 0 (wO (o:=.no) h8))<|rB 1 (lE 0)<|lH 1 [] [] [] [0,1,3,11,12,13] (ih _ _ _ _ _)) λ_=>lE 1)<|lE 0
theorem zZe{f c d b e}:Cz (zPg f c d b e) 162 [] [zP xE c .no,ai d,zP zY b .no,ai e] (λr=>ab r) (λ_=>[]) 0:=fw func162<|fH 1 [] [] [] [0,1,3,11,12,13] (zSQ _ _ _ _ _ _)
def zSR(a:Nat)(c:xJ)(b:Int):Option (Bool):=zV c b>>=λx1=>if decide (x1.pars<0)then some false else if decide (x1.inds<0)then some false else if decide (x1.pars>24)then some false else if decide (x1.inds>(xF (24-x1.pars)))then some false else if x1.fam !=0 then some false else if x1.place !=0 then some false else zPi a x1.body>>=λr9=>if r9 then zBu a x1.type (xF (x1.pars+x1.inds))>>=λr12=>if r12.2.2 !=0 then some false else if r12.2.1.k !=2 then some false else if r12.2.1.n !=x1.level then some false else if decide ((x1.cons.length:Int)>16)then some false else zPh a x1.cons (xF (b+1))>>=λr18=>if r18 then zPg a c b x1.cons 2>>=λr21=>if r21 then if(x1.fields.length:Int)==0 then some true else if x1.inds !=0 then some false else if(x1.cons.length:Int)!=1 then some false else zPh a x1.fields (xF (b+2))>>=λr27=>if r27 then zPg a c b x1.fields 4>>=λr30=>if r30 then zV c (xF (b+1))>>=λx33=>zIs a x33.type>>=λr35=>if r35.2.2==0 then some ((r35.1.length:Int)==(xF (x1.pars+(x1.fields.length:Int))))else some false else some false else some false else some false else some false else some false
theorem yBa{a c b}:Cz (zSR a c b) 115 [] [zP xE c .no,ai b] (λr=>ab r) (λ_=>[]) 0:=fw func115<|rA 0 (wO (o:=.no)) λ_=>rB 3 (fE 0)<|rB 1 (fE 0)<|rB 1 (fE 0)<|rB 3 (fE 0)<|rB 1 (fE 0)<|rB 1 (fE 0)<|rK 1 [] zZg (λ_=>rC 5 [] zPr λ_=>rB 4 (fE 0)<|rB 1 (fE 0)<|rB 2 (fE 0)<|rB 2 (fE 0)<|rK 2 [] zZf (λ_=>rK 2 [] zZe (λ_=>rB 3 (fE 0)<|rB 1 (fE 0)<|rB 2 (fE 0)<|rK 2 [] zZf (λ_=>rK 2 [] zZe (λ_=>rA 2 (wO (o:=.no)) λ_=>rC 1 [] zSB λ_=>rB 4 (fE 6)<|fE 0) λ_=>fE 1) λ_=>fE 1) λ_=>fE 1) λ_=>fE 1) λ_=>fE 1
end Go.Proofs.YtohkcbcddindpaaGreat
