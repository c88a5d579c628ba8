/- Parts of the proof that the law returns true: walks of the functions, plain laws. -/
import Derived.Lib.SlicesCompact
import Derived.Sort.Grow
import Derived.Sort.Row
import Derived.Test.YthncchbcdpbgaaaGreatAbB2
set_option linter.unusedVariables false
set_option linter.unusedSimpArgs false
set_option linter.unusedSectionVars false
namespace Go.Ab
open Go Go.RowKit
theorem wM{α β:Type}{x:Option α}{f:α->Option β}{r:β}(h:(x>>=f)=some r):∃v,x=some v/\f v=some r:=by cases x with|none=>cases h|some v=>exact⟨v,rfl,h⟩
theorem ifT{α:Type}{b:Bool}{x y r:α}(hb:b=true)(h:(if b=true then x else y)=r):x=r:=by rwa[if_pos hb]at h
theorem ifF{α:Type}{b:Bool}{x y r:α}(hb:b=false)(h:(if b=true then x else y)=r):y=r:=by rw[hb,if_neg (by simp)]at h;exact h
theorem yP.nil{P:Program}:yP P []:=trivial
theorem yP.cons{P:Program}{o:Ob}{l:List Ob}(h:o.ok P)(k:yP P l):yP P (o::l):=⟨h,k⟩
theorem zIc{P:Program}{b b':Bool}(h:b=b'):Ob.ok P (.bit b b'):=h
theorem J6{P:Program}{f:FuncId}{H0:List yG}{args:List AV}{res:AV}{H1:List yG}{nst:Nat}(h:CT P f H0 args res H1 nst):Ob.ok P (.call f H0 args res H1 nst):=h
theorem W7{P:Program}{es:List AV}(h:AV.DataL es):Ob.ok P (.data es):=h
theorem uE.nilcase{P:Program}{f:FuncId}{H0 H1:List yG}{es:List AV}{n:Nat}{as0:List AV}{res:AV}{nst:Nat}(h0:es=[]->uE P f H0 (.sl es n .nl::as0) res H1 nst)(h1:uE P f H0 (.sl es n .nn::as0) res H1 nst):uE P f H0 (.sl es n .no::as0) res H1 nst:=by intro G0 W cargs hB hR hv;cases hc:cargs.toList with|nil=>rw[hc]at hv;simp only[VL]at hv|cons u us=>
 rw[hc]at hv;simp only[VL]at hv;obtain⟨hu,hus⟩:=hv;simp only[V]at hu;obtain⟨cap,hcap,⟨q1,q2,q3,q4,_⟩|⟨b,off,q1,q2,_⟩⟩:=hu;·cases hs:iR u with|none=>refine h0 q1 G0 W cargs hB hR ?_;rw[hc];simp only[VL];exact⟨by simp only[V];exact⟨cap,hcap,.inl ⟨q1,q2,q3,q4,hs⟩⟩,hus⟩|some a=>refine h1 G0 W cargs hB hR ?_;rw[hc];simp only[VL];exact⟨by simp only[V];exact⟨cap,hcap,.inl ⟨q1,q2,q3,q4,a,hs⟩⟩,hus⟩
 ·refine h1 G0 W cargs hB hR ?_;rw[hc];simp only[VL];exact⟨by simp only[V];exact⟨cap,hcap,.inr ⟨b,off,q1,q2,trivial⟩⟩,hus⟩
theorem C9{α:Type}{c:α->List AV}{sz:Nat}(hc:vG c sz)(h:0<sz){l:List α}(hl:zH c l=[]):l=[]:=by have:=uA hc.len l;rw[hl]at this;cases l with|nil=>rfl|cons x l=>simp only[List.length_nil,List.length_cons]at this;exact absurd this.symm (Nat.ne_of_gt (Nat.mul_pos (Nat.succ_pos _) h))
variable{P:Program}{pr:FuncId->List AV->yN->Option LA}(hp:tE P pr)(hm:P.follows .mixedOrders=true){na:Nb}{fn:Func}{f:FuncId}
include hp hm
theorem uE.toHead{H0 H1:List yG}{args:List AV}{res:AV}{nst:Nat}(hf:P.funcs[f]?=some fn)(hb:fn.body.isNone=false)(n:Nat)(os:List nA)(rs:List (Option Nat×Nat×Nat))(keep ks live:List Nat){c:Code}{fs':List Fr}{E:(Nat->Value)->List AV}{S:yN}{ob:List Ob}(h:∀j,C2 P pr H0.length n (.run (sM fn)) [] (args++List.replicate (fn.ntmps-args.length) (.val undef)) (N5 H0) os rs keep ks live j=some (c,fs',E j,S,ob))(hob:yP P ob)(hk:∀j,Dl P H0.length c (E j) S (wC P H0.length (jK P H0.length fn res H1 nst) fs')):uE P f H0 args res H1 nst:=uE.body hf hb (zDK (na:=(H0.length:Nb)) (m:=.run (sM fn)) (fs:=[]) hp hm h hob hk)
theorem uE.toFin{H0 H1:List yG}{args:List AV}{res:AV}{nst:Nat}(hf:P.funcs[f]?=some fn)(hb:fn.body.isNone=false)(n:Nat)(os:List nA)(rs:List (Option Nat×Nat×Nat))(keep ks:List Nat)(own:Bool){ob:List Ob}(h:Q4 P pr H0.length fn n (.run (sM fn)) [] (args++List.replicate (fn.ntmps-args.length) (.val undef)) (N5 H0) os rs keep ks own=some (res,H1,ob))(hob:yP P ob)(hn:nst<=ks.length):uE P f H0 args res H1 nst:=uE.body hf hb (S2 (na:=(H0.length:Nb)) (m:=.run (sM fn)) (fs:=[]) hp hm h hob hn)
theorem Dl.toHead{Q:AX->List AV->yN->Prop}{c c':Code}{fs fs':List Fr}{env:List AV}{s S:yN}(n:Nat)(os:List nA)(rs:List (Option Nat×Nat×Nat))(keep ks live:List Nat){E:(Nat->Value)->List AV}{ob:List Ob}(h:∀j,C2 P pr na.n n (.run c) (.loop c::fs) env s os rs keep ks live j=some (c',fs',E j,S,ob))(hob:yP P ob)(hk:∀j,Dl P na c' (E j) S (wC P na Q fs')):Dl P na c env s (wC P na Q fs):=Dl.step (zDK hp hm (Q:=Q) (m:=.run c) (fs:=.loop c::fs) h hob hk)
theorem Dl.toFin{c:Code}{fs:List Fr}{env:List AV}{s:yN}{res:AV}{H1:List yG}{nst:Nat}(n:Nat)(os:List nA)(rs:List (Option Nat×Nat×Nat))(keep ks:List Nat)(own:Bool){ob:List Ob}(h:Q4 P pr na.n fn n (.run c) (.loop c::fs) env s os rs keep ks own=some (res,H1,ob))(hob:yP P ob)(hn:nst<=ks.length):Dl P na c env s (wC P na (jK P na fn res H1 nst) fs):=Dl.step (S2 hp hm (m:=.run c) (fs:=.loop c::fs) h hob hn)
end Go.Ab
namespace Go.Ab
open Go Go.RowKit
theorem J7{P:Program}{ops:Array Oper}{Q:Exit->Act->World->Prop}{rest:List Nat}:∀(l:List (Nat×Option LA))(S S':ST),lO P ops l S S'->∀(G:Gh)(a:Act)(w:World),qN G S a w->(∀G' a' w',wK G w G' w'->qN G' S' a' w'->wpOps P ops Q rest a' w')->wpOps P ops Q (l.map (·.1)++rest) a w|[],S,S',h,G,a,w,hR,hQ=>by simp only[lO]at h;subst h;exact hQ G a w (wK.refl G w) hR|p::l,S,S',h,G,a,w,hR,hQ=>by obtain⟨S₁,h1,h2⟩:=h;rw[List.map_cons,List.cons_append,wpOps_cons];refine h1.wp hR λG' a' w' hE hR'=>?_;exact J7 l S₁ S' h2 G' a' w' hR' λG2 a2 w2 hE2 hR2=>hQ G2 a2 w2 (hE.trans hE2) hR2
theorem zKn{P:Program}{dst:Option Tmp}{type:TypeId}{pos:String}{after:Array Edge}{guard:Option (Nat×Bool)}{g:Operand}{args:Array Operand}{argTypes:Array TypeId}{f:FuncId}{fn:Func}{a:Act}{w:World}{K:Act->World->Prop}{Q:Exit->Act->World->Prop}(hg:a.eval g=.func (.func f) #[] #[])(hf:P.funcs[f]?=some fn)(hname:(fn.name=="runtime.NumGoroutine")=false)(hb:fn.body.isNone=false)(h:Calls P f (args.map a.eval) w λe w'=>∃u,e=.returned u/\K (a.put dst u) w'):Oper.wp P ⟨dst,.call {callee:=.value g,args:=args,argTypes:=argTypes},type,pos,after,guard⟩ a w K Q:=by
 have hrun:(execOp a.eval ⟨dst,.call {callee:=.value g,args:=args,argTypes:=argTypes},type,pos,after,guard⟩).run P w=.ok (.enter f (args.map a.eval)) w:=by
  simp only[execOp,resolve,hg,Deferred.ofValue,Sem.run_bind,Sem.run_pure,Result.andThen_ok,invoke,callFunc];have hname':¬fn.name="runtime.NumGoroutine":=by simpa using hname
  have hb':¬fn.body=none:=by intro e;rw[e]at hb;cases hb
  simp[program,Sem.run,hf,hname',hb']
 unfold Oper.wp;rw[hrun,Oper.upon_enter];refine h.mono λe w' he=>?_;obtain⟨u,rfl,hK⟩:=he;exact hK
theorem uJ.cell{F:Nat->Prop}{w w':World}(h:uJ F w w'){b o:Nat}(hb:F b):w'.cell? ⟨b,o,none⟩=w.cell? ⟨b,o,none⟩:=by simp only[World.cell?,h.block b hb]
def W8(keep:List Nat):List (Nat×yG)->List (Nat×yG)|[]=>[]|p::l=>bif sR keep p.1 then p::W8 keep l else W8 keep l
theorem jL{keep:List Nat}:∀(l:List (Nat×yG))(i:Nat),look (W8 keep l) i=if sR keep i=true then look l i else none|[],i=>by simp[W8,look]|p::l,i=>by simp only[W8];cases hb:sR keep p.1 with
 |true=>simp only[cond_true,look,jL l i];cases he:Nat.beq i p.1 with|true=>have:=Nat.eq_of_beq_eq_true he;subst this;simp only[cond_true,hb,if_true]|false=>simp only[cond_false]
 |false=>simp only[cond_false,look,jL l i];cases he:Nat.beq i p.1 with|true=>have:=Nat.eq_of_beq_eq_true he;subst this;simp[hb]|false=>simp only[cond_false]
def lS(keep:List Nat)(s:yN):yN:=⟨W8 keep s.H,s.nx,[],0,[]⟩
def yG.lit:yG->Prop|.cells cs=>∀(G G':Gh)(w w':World)(us:List Value),G'.F=G.F->(∀b o,G.F b->G.L b o->G'.L b o)->(∀b o,G.F b->w'.cell? ⟨b,o,none⟩=w.cell? ⟨b,o,none⟩)->VL G w cs us->VL G' w' cs us|_=>False
def zMK(G0 G:Gh)(keep:List Nat)(S:Nat->Nat->Prop):Gh:=⟨λi=>if sR keep i=true then G.ρ i else none,λ_=>none,λb o=>G0.L b o\/S b o,G0.w0,G0.F,λ_=>False⟩
theorem zUN{na:Nb}{G0 G:Gh}{W w w':World}{s:yN}{keep:List Nat}{S:Nat->Nat->Prop}{b:Nat}(hB:zAw na G0)(hn:na.n=0)(hE:wK G0 W G w)(hR:yI G (yS (vH 0) s) w)(hbF:¬G0.F b)(hbρ:∀i,G.ρ i≠some b)(hK:uJ (λc=>c<w.heap.size/\c≠b) w w')(hlit:∀i X,sR keep i=true->look s.H i=some X->X.lit)(hS:∀c o,S c o->c=b/\∃v,w'.cell? ⟨c,o,none⟩=some v):wK G0 W (zMK G0 G keep S) w'/\yI (zMK G0 G keep S) (yS (vH 0) (lS keep s)) w':=by
 have hLlt:∀c o,G0.L c o->c<w.heap.size/\c≠b:=λc o e=>⟨hR.base c (by rw[hE.F];exact hB.LF c o e),λec=>hbF (ec▸hB.LF c o e)⟩;have hcell:∀c o,G0.L c o->w'.cell? ⟨c,o,none⟩=w.cell? ⟨c,o,none⟩:=λc o e=>hK.cell (hLlt c o e);have hH:∀i,(yS (vH 0) (lS keep s)).H i=if sR keep i=true then look s.H i else none:=λi=>by rw[xK];exact jL _ _
 refine⟨⟨λi c e=>?_,λk r e=>?_,λ_ _ e=>.inl e,λc o e=>(hcell c o e).trans (hE.cell c o e),rfl,rfl,λc o e=>e.imp id λq=>by rw[(hS c o q).1];exact hbF,λi b m e _=>(by rw[(hB.ρ i (by omega)).1]at e;cases e),λi e=>absurd e (hB.ρ i (by omega)).2⟩,⟨λi=>?_,?_,λi j c hi hj=>?_,λi c X hi hX=>?_,λc o e=>?_,λ_ _=>rfl,λk hk=>?_,λk k' c f t f' t' hk=>?_,?_,λk hk=>?_⟩⟩;·rw[(hB.ρ i (by omega)).1]at e;cases e
 ·rw[hB.τ k]at e;cases e
 ·rw[hH];show kZ (if sR keep i=true then G.ρ i else none) False _;split
  ·rename_i hm;have hd:=hR.dom i;rw[xK]at hd;refine⟨λe=>.inr ?_,λe=>⟨(hd.2.1 e).1,id⟩,λe=>e.elim⟩;rcases hd.1 e with q|q;·cases hX:look s.H i with|none=>rfl|some X=>have hl:=hlit i X hm hX;have hv:=(hd.2.2 q).2 X hX;cases X with|cells cs=>exact hv.elim|obj o=>exact hl.elim|row cs=>exact hl.elim|dead=>exact hl.elim
   ·exact q
  ·exact⟨λ_=>.inr rfl,λ_=>⟨rfl,id⟩,λe=>e.elim⟩
 ·obtain⟨N,hN⟩:=hR.fin;refine⟨N,λi hi=>?_⟩;have:=hN i hi;rw[xK]at this;rw[hH];split;·exact this
  ·rfl
 ·have hi':(if sR keep i=true then G.ρ i else none)=some c:=hi;have hj':(if sR keep j=true then G.ρ j else none)=some c:=hj;split at hi'
  ·split at hj'
   ·rename_i h1 h2;have hno:∀t,sR keep t=true->(yS (vH 0) s).H t≠some .dead:=λt ht hd=>by rw[xK]at hd;exact hlit t _ ht hd
    rcases hR.inj i j c hi' hj' with q|q|q;·exact .inl q
    ·exact(hno i h1 q).elim
    ·exact(hno j h2 q).elim
   ·cases hj'
  ·cases hi'
 ·have hi':(if sR keep i=true then G.ρ i else none)=some c:=hi;split at hi';·rename_i hm;rw[hH,if_pos hm]at hX;obtain⟨q1,q2⟩:=hR.blk i c X hi' (by rw[xK];exact hX);refine⟨by rw[hE.F]at q1;exact q1,?_⟩;have hl:=hlit i X hm hX;cases X with
   |cells cs=>
    obtain⟨vs',T,q3,q4⟩:=q2;refine⟨vs',T,?_,q4.imp λus h=>hl G _ w w' us hE.F.symm (λb o h1 h2=>?_) (λb o h1=>?_) h⟩;·rw[hK.block c ⟨(Array.getElem?_eq_some_iff.1 q3).1,λe=>hbρ i (e▸hi')⟩];exact q3
    ·exact .inl ((hE.newL b o h2).resolve_right λh=>h (by rw[<-hE.F];exact h1))
    ·exact hK.cell ⟨hR.base b h1,λe=>hbF (by rw[<-hE.F];exact e▸h1)⟩|obj o=>exact hl.elim|row cs=>exact hl.elim|dead=>exact hl.elim
  ·cases hi'
 ·rcases e with e|e
  ·obtain⟨⟨v,hv⟩,q⟩:=hR.live c o (hE.L c o e);refine⟨⟨v,(hcell c o e).trans hv⟩,λi hi=>?_⟩;have hi':(if sR keep i=true then G.ρ i else none)=some c:=hi;split at hi';·exact q i hi'
   ·cases hi'
  ·obtain⟨rfl,hv⟩:=hS c o e;refine⟨hv,λi hi=>?_⟩;have hi':(if sR keep i=true then G.ρ i else none)=some c:=hi;split at hi';·exact hbρ i hi'
   ·cases hi'
 ·simp[tY,lS]at hk
 ·simp[tY,lS]at hk
 ·have:=hR.below;rw[hE.F,hE.w0]at this;exact this.trans (hK.mono λk hk=>⟨hR.base k (by rw[hE.F];exact hk),λe=>hbF (e▸hk)⟩)
 ·exact Nat.lt_of_lt_of_le (hR.base k (by rw[hE.F];exact hk)) hK.size
theorem zKm{keep:List Nat}{s:yN}(h:s.Ok):(lS keep s).Ok:=by
 refine⟨λi X hX=>?_,λk hk=>by simp[lS]at hk,(λk h=>by cases h),Nat.zero_le _⟩;have hX':look (W8 keep s.H) i=some X:=hX;rw[jL]at hX';split at hX';·exact h.H i X hX'
 ·cases hX'
def mutEnv(keep:List Nat)(j:Nat->Value):List AV->Nat->List AV|[],_=>[]|a::l,t=>(match a with|.val v=>.val v|.mp i off=>bif sR keep i then .mp i off else .val (j t)|_=>.val (j t))::mutEnv keep j l (t+1)
theorem VL.mutEnv{G0 G:Gh}{w w':World}{keep:List Nat}{S:Nat->Nat->Prop}(us0:List Value):∀(env:List AV)(us:List Value)(t:Nat),VL G w env us->(∀i,us0.getD (t+i) undef=us.getD i undef)->VL (zMK G0 G keep S) w' (Ab.mutEnv keep (λt=>us0.getD t undef) env t) us
 |[],[],_,_,_=>by simp[Ab.mutEnv,VL]|a::as0,u::us,t,hv,hu=>by
  simp only[VL]at hv;have h0:us0.getD t undef=u:=by have:=hu 0;simpa using this
  simp only[Ab.mutEnv,VL];refine⟨?_,VL.mutEnv us0 as0 us (t+1) hv.2 (λi=>?_)⟩
  ·have h1:=hv.1;split;·simpa only[V]using h1
   ·rename_i i off;cases hm:sR keep i with|true=>simp only[V,cond_true]at h1⊢;obtain⟨c,hc,rfl⟩:=h1;exact⟨c,by show(if sR keep i=true then G.ρ i else none)=_;rw[if_pos hm];exact hc,rfl⟩|false=>simp only[cond_false,V];exact h0.symm
   ·simp only[V];exact h0.symm
  ·have:=hu (i+1);rw[show t+1+i=t+(i+1)by omega,this];simp|[],_::_,_,h,_=>by simp only[VL]at h|_::_,[],_,h,_=>by simp only[VL]at h
theorem VL.put{G:Gh}{w:World}:∀(as0:List AV)(us:List Value),VL G w as0 us->∀(i:Nat)(a:AV),(∀u,us[i]?=some u->V G w a u)->VL G w (as0.set i a) us
 |[],[],_,i,a,_=>by simp[VL]|x::as0,y::us,h,i,a,hv=>by simp only[VL]at h;cases i with|zero=>simp only[List.set_cons_zero,VL];exact⟨hv y rfl,h.2⟩|succ i=>simp only[List.set_cons_succ,VL];exact⟨h.1,VL.put as0 us h.2 i a λu hu=>hv u (by simpa using hu)⟩
 |[],_::_,h,_,_,_=>by simp only[VL]at h|_::_,[],h,_,_,_=>by simp only[VL]at h
def uG:Code->Array Oper|.region _ ops _=>ops|_=>#[]
def W9:Code->Bool|.region _ _ false=>true|_=>false
def zTZ:Code->Bool|.ret=>true|_=>false
def zKl:Option Oper->Option (Option Tmp×Operand)|some ⟨d,.move x,_,_,_,none⟩=>some (d,x)|some ⟨d,.assign x,_,_,_,none⟩=>some (d,x)|_=>none
def zGF:Option Oper->Option (Option Tmp×FuncId×Array Operand)|some ⟨d,.call {callee:=.value (.func f),args,argTypes:=_},_,_,_,none⟩=>some (d,f,args)|_=>none
section
variable{P:Program}{a:Act}{w:World}{Q:Exit->Act->World->Prop}
theorem zCs{c:Code}(hk:knd c=1)(h:(gI c).wp P (Exit.then ((rL c).wp P Q) Q) a w):c.wp P Q a w:=by cases c<;>first|exact wp_seq h|cases hk
theorem aF{c:Code}(hk:W9 c=true){l:List Nat}(hl:List.range (uG c).size=l)(h:wpOps P (uG c) Q l a w):c.wp P Q a w:=by subst hl;cases c with
 |region id ops draw=>cases draw with|false=>exact wp_region h|true=>cases hk
 |_=>cases hk
theorem zQc{c:Code}(hk:zTZ c=true)(h:Q .ret a w):c.wp P Q a w:=by cases c<;>first|exact wp_ret h|cases hk
theorem D0{ops:Array Oper}{rest:List Nat}{i:Nat}{d:Option Tmp}{x:Operand}(hop:zKl ops[i]?=some (d,x))(h:wpOps P ops Q rest (a.put d (a.eval x)) w):wpOps P ops Q (i::rest) a w:=by
 rw[wpOps_cons];unfold wpOp;unfold zKl at hop;split at hop
 ·rename_i o e;cases hop;rw[e];simp only[Region.wanted,if_true];refine .inl ?_;unfold Oper.wp;simpa[execOp,Oper.upon]using h
 ·rename_i o e;cases hop;rw[e];simp only[Region.wanted,if_true];refine .inl ?_;unfold Oper.wp;simpa[execOp,Oper.upon]using h
 ·cases hop
theorem X0{ops:Array Oper}{rest:List Nat}{i:Nat}{d:Option Tmp}{args:Array Operand}{f:FuncId}{fn:Func}(hop:zGF ops[i]?=some (d,f,args))(hf:P.funcs[f]?=some fn)(hname:(fn.name=="runtime.NumGoroutine")=false)(hb:fn.body.isNone=false)(h:Calls P f (args.map a.eval) w λe w'=>∃u,e=.returned u/\wpOps P ops Q rest (a.put d u) w'):wpOps P ops Q (i::rest) a w:=by
 rw[wpOps_cons];unfold wpOp;unfold zGF at hop;split at hop;·rename_i e;cases hop;rw[e];simp only[Region.wanted,if_true];exact .inl (zKn (f:=f) (fn:=fn) rfl hf hname hb h)
 ·cases hop
end
def tells:List (Nat×AV)->List AV->List AV|[],env=>env|p::l,env=>tells l (env.set p.1 p.2)
theorem VL.tells{G:Gh}{w:World}:∀(l:List (Nat×AV))(as0:List AV)(us:List Value),VL G w as0 us->(∀p∈l,∀u,us[p.1]?=some u->V G w p.2 u)->VL G w (Ab.tells l as0) us|[],_,_,h,_=>h|p::l,as0,us,h,k=>VL.tells l _ us (VL.put as0 us h p.1 p.2 (k p List.mem_cons_self)) λq hq=>k q (List.mem_cons_of_mem _ hq)
theorem VL.getE{G:Gh}{w:World}{env:List AV}{us:List Value}(h:VL G w env us){t:Nat}{u:Value}(hu:us[t]?=some u):V G w (eget env t) u:=by
 have:=V.eget env us h t;have e:us.getD t undef=u:=by simp[List.getD,hu]
 rwa[e]at this
theorem Dv.mut{P:Program}{pr:FuncId->List AV->yN->Option LA}(hp:tE P pr){na:Nb}(hn:na.n=0){Q:AX->List AV->yN->Prop}{id:Nat}{ops:Array Oper}{env env1:List AV}{s s1 s3:yN}{os os2:List nA}{ob ob2:List Ob}(p:Nat)(keep:List Nat)(tell:List (Nat×AV))(res:AV){dst:Option Tmp}{tA:Tmp}{f:FuncId}{fn:Func}{E3:(Nat->Value)->List AV}(h1':(Q3 P pr ops (ops.toList.take p) 0 env s os).map Prod.snd=some (env1,s1,[],ob))(hob:yP P ob)(hop:zGF ops[p]?=some (dst,f,#[.tmp tA]))(hf:P.funcs[f]?=some fn)(hname:(fn.name=="runtime.NumGoroutine")=false)(hb:fn.body.isNone=false)(hlit:∀i X,sR keep i=true->look s1.H i=some X->X.lit)(hcall:∀G0 W,zAw na G0->∀G w,wK G0 W G w->yI G (yS (vH 0) s1) w->∀u,V G w (eget env1 tA) u->Calls P f #[u] w λe w'=>∃(v:Value)(b:Nat)(S:Nat->Nat->Prop),e=.returned v/\¬G.F b/\(∀i,G.ρ i≠some b)/\uJ (λc=>c<w.heap.size/\c≠b) w w'/\(∀c o,S c o->c=b/\∃x,w'.cell? ⟨c,o,none⟩=some x)/\∀G',wK G0 W G' w'->uJ G'.F G'.w0 w'->(∀c o,S c o->G'.L c o)->V G' w' res v/\∀q∈tell,∀u',V G w (eget env1 q.1) u'->V G' w' q.2 u')(h2':∀j,(Q3 P pr ops (ops.toList.drop (p+1)) (p+1) (eset (tells tell (mutEnv keep j env1 0)) dst res) (lS keep s1) os2).map Prod.snd=some (E3 j,s3,[],ob2))(hob2:yP P ob2)(hk:∀j,Q .normal (E3 j) s3):Dv P na (.region id ops false) env s Q:=by
 have mp:∀{x:Option (List (Nat×Option LA)×List AV×yN×List nA×List Ob)}{y},x.map Prod.snd=some y->∃r,x=some (r,y):=by intro x y h;simp only[Option.map_eq_some_iff]at h;obtain⟨⟨r,z⟩,h1,rfl⟩:=h;exact⟨r,h1⟩
 obtain⟨r,h1⟩:=mp h1';intro G0 W hB G a w hE hok hR;have hlt:p<ops.size:=by
  rcases Nat.lt_or_ge p ops.size with h|h;·exact h
  ·rw[Array.getElem?_eq_none h]at hop;cases hop
 obtain⟨_,q2,q3⟩:=S1 hp (ops.toList.take p) 0 env s os r _ _ _ _ (λk o e=>by
  rw[List.getElem?_take]at e;split at e;·simpa using e
  ·cases e) h1 hob;obtain⟨o1,r1⟩:=q3 (vH 0) 0 hok (λ_ _ _=>rfl);refine wp_region ?_;have hr:List.range ops.size=r.map (·.1)++p::List.range' (p+1) (ops.size-(p+1)):=by
  rw[q2,List.range_eq_range'];have hl:(ops.toList.take p).length=p:=by simp;omega
  rw[hl,show p::List.range' (p+1) (ops.size-(p+1))=List.range' p (ops.size-p)by rw[show ops.size-p=(ops.size-(p+1))+1 by omega,List.range'_succ]];have:=List.range'_append (s:=0) (m:=p) (n:=ops.size-p) (step:=1);simp only[Nat.one_mul,Nat.zero_add]at this;rw[this];congr 1;omega
 rw[hr];refine J7 r _ _ r1 G a w hR λG1 a1 w1 hE1 hR1=>?_;have hEE:=hE.trans hE1;have hu:V G1 w1 (eget env1 tA) (a1.eval (.tmp tA)):=by have:=V.aev hR1.env (.tmp tA);simpa[aev]using this
 refine X0 hop hf hname hb ?_;rw[show Array.map a1.eval #[Operand.tmp tA]=#[a1.eval (Operand.tmp tA)]by simp];refine(hcall G0 W hB G1 w1 hEE hR1.st _ hu).mono ?_;rintro e w2⟨v,b,S,rfl,hbF,hbρ,hK,hS,hV⟩;refine⟨v,rfl,?_⟩;obtain⟨hE2,hR2⟩:=zUN (keep:=keep) hB hn hEE hR1.st (by rw[<-hEE.F];exact hbF) hbρ hK hlit hS;obtain⟨hv,ht⟩:=hV _ hE2 hR2.below (λc o h=>.inr h);have henv:VL (zMK G0 G1 keep S) w2 (eset (tells tell (mutEnv keep (λt=>a1.tmps.toList.getD t undef) env1 0)) dst res) (a1.put dst v).tmps.toList:=by refine VL.eset ?_ dst hv;refine VL.tells tell _ _ (VL.mutEnv _ env1 _ 0 hR1.env (λi=>by rw[Nat.zero_add])) λq hq u' hu'=>ht q hq u' (hR1.env.getE hu')
 have hR3:qN (zMK G0 G1 keep S) ⟨eset (tells tell (mutEnv keep (λt=>a1.tmps.toList.getD t undef) env1 0)) dst res,yS (vH 0) (lS keep s1)⟩ (a1.put dst v) w2:=⟨hR2,henv,by rw[zBT];exact hR1.dfr⟩;have hok2:=zKm (keep:=keep) o1;obtain⟨r2,h2⟩:=mp (h2' λt=>a1.tmps.toList.getD t undef);obtain⟨_,q5,q6⟩:=S1 hp (ops.toList.drop (p+1)) (p+1) _ _ os2 r2 _ _ _ _ (λk o e=>by rw[List.getElem?_drop]at e;simpa using e) h2 hob2;obtain⟨o3,r3⟩:=q6 (vH 0) 0 hok2 (λ_ _ _=>rfl);have e5:List.range' (p+1) (ops.size-(p+1))=r2.map (·.1)++[]:=by rw[q5,List.append_nil];simp
 rw[e5];refine J7 r2 _ _ r3 _ _ w2 hR3 λG4 a4 w4 hE4 hR4=>?_;exact⟨.normal,_,s3,G4,rfl,hk _,hE2.trans hE4,o3,hR4⟩
theorem zXn{c:Code}(hk:W9 c=true):∃id,c=.region id (uG c) false:=by cases c with
 |region id ops draw=>cases draw with|false=>exact⟨id,rfl⟩|true=>cases hk
 |_=>cases hk
theorem Dv.seqP{P:Program}{na:Nb}{c:Code}{env:List AV}{s:yN}{Q:AX->List AV->yN->Prop}(hk:knd c=1)(h:Dv P na (gI c) env s (zMh (λe s=>Dv P na (rL c) e s Q) Q)):Dv P na c env s Q:=by cases c<;>first|exact Dv.seq h|cases hk
open Go.Lib
def X1(x:Int):List Int->List Int|[]=>[x]|y::l=>if x<=y then x::y::l else y::X1 x l
def bJ:List Int->List Int|[]=>[]|x::l=>X1 x (bJ l)
def oH:List Int->List Int|[]=>[]|x::l=>match l with|[]=>[x]|y::_=>if x=y then oH l else x::oH l
def vE(l:List Int):List Int:=oH (bJ l)
theorem aG(x:Int):∀l,(X1 x l).Perm (x::l)
 |[]=>.refl _|y::l=>by
  simp only[X1];split;·exact .refl _
  ·exact((aG x l).cons y).trans (.swap x y l)
theorem jM:∀l,(bJ l).Perm l|[]=>.refl _|x::l=>(aG x (bJ l)).trans ((jM l).cons x)
theorem D1(x:Int):∀l,l.Pairwise (·<=·)->(X1 x l).Pairwise (·<=·)
 |[],_=>by simp[X1]|y::l,h=>by
  simp only[X1];rw[List.pairwise_cons]at h;split
  ·rename_i hxy;rw[List.pairwise_cons];refine⟨λz hz=>?_,List.pairwise_cons.2 h⟩;rcases List.mem_cons.1 hz with rfl|hz;·exact hxy
   ·exact Int.le_trans hxy (h.1 z hz)
  ·rename_i hxy;rw[List.pairwise_cons];refine⟨λz hz=>?_,D1 x l h.2⟩;rcases List.mem_cons.1 ((aG x l).mem_iff.1 hz)with rfl|hz;·omega
   ·exact h.1 z hz
theorem jN:∀l,(bJ l).Pairwise (·<=·)|[]=>.nil|x::l=>D1 x _ (jN l)
theorem Q6(l:List Int):l.mergeSort (λx y=>decide (x<=y))=bJ l:=by
 have h1:(l.mergeSort (λx y=>decide (x<=y))).Perm (bJ l):=(List.mergeSort_perm l _).trans (jM l).symm;have h2:(l.mergeSort (λx y=>decide (x<=y))).Pairwise (·<=·):=by have:=List.pairwise_mergeSort (le:=λ(x y:Int)=>decide (x<=y)) (λa b c h1 h2=>by simp only[decide_eq_true_eq]at*;omega) (λa b=>by simp only[Bool.or_eq_true,decide_eq_true_eq];omega) l;exact this.imp λh=>by simpa using h
 exact h1.eq_of_pairwise (λa b _ _ h1 h2=>Int.le_antisymm h1 h2) h2 (jN l)
theorem pN(x y:Int)(l:List Int):oH (x::y::l)=if x=y then oH (y::l)else x::oH (y::l):=rfl
theorem zAa(x:Int):∀l:List Int,oH (l++[x])=if l=[]\/l.getLast?≠some x then oH l++[x]else oH l
 |[]=>by simp[oH]|[y]=>by
  show oH (y::x::[])=_;rw[pN];by_cases h:y=x;·subst h;simp[oH]
  ·simp[h,oH]|y::z::l=>by
  have ih:=zAa x (z::l);show oH (y::z::(l++[x]))=_;rw[pN,pN];simp only[List.cons_append]at ih;rw[ih];have e:(y::z::l).getLast?=(z::l).getLast?:=by simp[List.getLast?_cons_cons]
  rw[e];by_cases h:y=z;·simp only[h,if_true];split<;>split<;>simp_all
  ·simp only[h,if_false];split<;>split<;>simp_all
theorem D2(zs:List Int):∀m,m<=zs.length->compactUpTo zs.toArray m=oH (zs.take m)
 |0,_=>by simp[compactUpTo,oH]|m+1,h=>by
  rw[compactUpTo_succ,D2 zs m (by omega),List.take_succ_eq_append_getElem (by omega),zAa];have hm:zs.toArray[m]! =zs[m]:=by simp[show m<zs.length by omega]
  rcases Nat.eq_zero_or_pos m with rfl|hpos;·simp[keeps,oH,show 0<zs.length by omega]
  ·have hl:(zs.take m).getLast?=some zs[m-1]:=by rw[List.getLast?_eq_getElem?,List.length_take,Nat.min_eq_left (show m<=zs.length by omega),List.getElem?_take_of_lt (show m-1<m by omega),List.getElem?_eq_getElem (show m-1<zs.length by omega)]
   have hm':zs.toArray[m-1]! =zs[m-1]:=by simp[show m-1<zs.length by omega]
   have hne:¬zs.take m=[]:=by intro e;have:=congrArg List.length e;rw[List.length_take,Nat.min_eq_left (show m<=zs.length by omega),List.length_nil]at this;omega
   rw[hl];simp only[hne,false_or,ne_eq,Option.some.injEq];by_cases e:zs[m]=zs[m-1];·rw[keeps_neg hpos (by rw[hm,hm',e])];simp[e]
   ·rw[keeps_pos (by rw[hm,hm'];exact e)];have e':¬zs[m-1]=zs[m]:=λh=>e h.symm;simp[e',hm]
theorem zKk(l:List Int):compactUpTo (l.mergeSort λx y=>decide (x<=y)).toArray (l.mergeSort λx y=>decide (x<=y)).toArray.size=vE l:=by rw[Q6];have:=D2 (bJ l) (bJ l).length (Nat.le_refl _);rw[List.take_length]at this;simpa[vE]using this
theorem zDT:∀l:List Int,(oH l).length<=l.length
 |[]=>by simp[oH]|[x]=>by simp[oH]|x::y::l=>by
  rw[pN];have:=zDT (y::l);split;·simp at this⊢;omega
  ·simp at this⊢;omega
theorem X2(l:List Int):(vE l).length<=l.length:=by have:=zDT (bJ l);rw[(jM l).length_eq]at this;exact this
end Go.Ab
namespace Go.Ab
open Go Go.RowKit Go.Sort
variable{P:Program}
theorem Calls.args{P:Program}{f:FuncId}{a b:Array Value}{w:World}{R:Ending->World->Prop}(h:a=b)(k:Calls P f b w R):Calls P f a w R:=h▸k
theorem zML{P:Program}{c:Code}{Q:Exit->Act->World->Prop}{a b:Act}{w:World}(h:a=b)(k:c.wp P Q b w):c.wp P Q a w:=h▸k
theorem D3{α:Type}[Inhabited α](enc:α->Value)(w:World)(b off:Nat)(d:Array α){k:Nat}(hk:k≠b):(putRow enc w b off d).heap[k]?=w.heap[k]?:=by simp only[putRow,mapBlock,Array.getElem?_modify];rw[if_neg (λe=>hk e.symm)]
theorem uJ.putRow{α:Type}[Inhabited α](enc:α->Value)(w:World)(n b off:Nat)(d:Array α):uJ (λc=>c<w.heap.size/\c≠b) w (putRow enc (Sort.ahead w n) b off d):=⟨rfl,rfl,rfl,by simp,λk hk=>by rw[D3 _ _ _ _ _ hk.2];rfl⟩
theorem uJ.grow(w:World)(os:Array Obj)(b:Nat):uJ (λc=>c<w.heap.size/\c≠b) w (grow w os):=⟨rfl,rfl,rfl,by simp[Sort.grow],λk hk=>by show(w.heap++os)[k]?=_;rw[Array.getElem?_append_left hk.1]⟩
end Go.Ab
namespace Go.Proofs.YthncchbcdpbgaaaGreat
open Go Go.Ab Go.RowKit Go.Sort Go.Proofs Go.Proofs.Tryz
theorem zKj{w:World}{b off cap:Nat}{zs:List Int}(hH:Holds (Value.int .i64) w b off zs.toArray)(hb:b<w.heap.size)(hsz:zs.length<4611686018427387904):Calls prog 292 #[.slice (some ⟨b,off,none⟩) zs.length cap] w λe w'=>e=.returned (.tuple #[])/\∃n os,w'=Sort.grow (putRow (Value.int .i64) (Sort.ahead w n) b off (zs.mergeSort λx y=>decide (x<=y)).toArray) os:=AnyM.slices_Sort_int Tryz.sortI b off cap zs w hH hb hsz
theorem zCr{w:World}{b off cap:Nat}{zs:List Int}(hH:Holds (Value.int .i64) w b off zs.toArray)(hsz:zs.length<4611686018427387904)(hcap:zs.length<=cap):Calls prog 293 #[.slice (some ⟨b,off,none⟩) zs.length cap] w λe w'=>e=.returned (.slice (some ⟨b,off,none⟩) (Go.Lib.compactUpTo zs.toArray zs.toArray.size).length cap)/\∃q,w'=putRow (Value.int .i64) (Sort.ahead w q) b off (Go.Lib.compactUpTo zs.toArray zs.toArray.size++List.replicate (zs.toArray.size-(Go.Lib.compactUpTo zs.toArray zs.toArray.size).length) 0).toArray:=by have:=AnyE.slices_Compact Tryz.cmpI (Value.int .i64) (λ_=>rfl) (EqlAt.intD _ _ .i64) (NeqAt.intD _ _ .i64) 0 Tryz.zeroValue3 b off cap zs.toArray w hH (by simp;omega) (by simpa using hcap);simpa[show Tryz.cmpI_ren.f 43=293 from rfl]using this
theorem zAA{w:World}{u:Value}{M:World->Prop}{N:World->Value->Prop}(hs:Calls prog 292 #[u] w λe w1=>e=.returned (.tuple #[])/\M w1)(hc:∀w1,M w1->Calls prog 293 #[u] w1 λe w2=>∃v,e=.returned v/\N w2 v):Calls prog 250 #[u] w λe w'=>∃v,e=.returned v/\N w' v:=by
 refine calls_of_wp func250 (c:=sM f250) (by kernel_rfl) ?_;have k0:knd (sM f250)=1:=by kernel_rfl
 have k1:W9 (gI (sM f250))=true:=by kernel_rfl
 have k2:List.range (uG (gI (sM f250))).size=[0]:=by kernel_rfl
 have k3:zKl (uG (gI (sM f250)))[0]?=some (some 2,.const (.slice none 0 0)):=by kernel_rfl
 have k4:knd (rL (sM f250))=1:=by kernel_rfl
 have k5:W9 (gI (rL (sM f250)))=true:=by kernel_rfl
 have k6:List.range (uG (gI (rL (sM f250)))).size=[0,1]:=by kernel_rfl
 have k7:zKl (uG (gI (rL (sM f250))))[0]?=some (some 3,.tmp 0):=by kernel_rfl
 have k8:zGF (uG (gI (rL (sM f250))))[1]?=some (some 4,292,#[.tmp 3]):=by kernel_rfl
 have k9:knd (rL (rL (sM f250)))=1:=by kernel_rfl
 have k10:W9 (gI (rL (rL (sM f250))))=true:=by kernel_rfl
 have k11:List.range (uG (gI (rL (rL (sM f250))))).size=[0,1,2]:=by kernel_rfl
 have k12:zKl (uG (gI (rL (rL (sM f250)))))[0]?=some (some 5,.tmp 0):=by kernel_rfl
 have k13:zGF (uG (gI (rL (rL (sM f250)))))[1]?=some (some 6,293,#[.tmp 5]):=by kernel_rfl
 have k14:zKl (uG (gI (rL (rL (sM f250)))))[2]?=some (some 2,.tmp 6):=by kernel_rfl
 have k15:zTZ (rL (rL (rL (sM f250))))=true:=by kernel_rfl
 have k16:(f292.name=="runtime.NumGoroutine")=false:=by kernel_rfl
 have k17:f292.body.isNone=false:=by kernel_rfl
 have k18:(f293.name=="runtime.NumGoroutine")=false:=by kernel_rfl
 have k19:f293.body.isNone=false:=by kernel_rfl
 have k20:f250.ntmps=7:=by kernel_rfl
 have k21:f250.results=#[.tmp 2]:=by kernel_rfl
 rw[k20];revert k0 k1 k2 k3 k4 k5 k6 k7 k8 k9 k10 k11 k12 k13 k14 k15;generalize sM f250=B;intro k0 k1 k2 k3 k4 k5 k6 k7 k8 k9 k10 k11 k12 k13 k14 k15;refine zCs k0 ?_;refine aF k1 k2 ?_;refine D0 k3 ?_;unfold wpOps;unfold Exit.then;dsimp only;refine zCs k4 ?_;refine aF k5 k6 ?_;refine D0 k7 ?_;refine X0 k8 func292 k16 k17 ?_;refine Calls.args (b:=#[u]) (by simp[Act.eval,Act.put]) (Calls.mono hs ?_);rintro e w1⟨rfl,hM⟩;refine⟨_,rfl,?_⟩;unfold wpOps;unfold Exit.then;dsimp only;refine zML (b:=⟨#[u,undef,.slice none 0 0,u,.tuple #[],undef,undef],[]⟩) (by simp[Act.eval,Act.put,Array.replicate_succ]) ?_;refine zCs k9 ?_;refine aF k10 k11 ?_;refine D0 k12 ?_;refine X0 k13 func293 k18 k19 ?_;refine Calls.args (b:=#[u]) (by simp[Act.eval,Act.put]) (Calls.mono (hc w1 hM) ?_);rintro e w2⟨v,rfl,hN⟩;refine⟨_,rfl,?_⟩;refine D0 k14 ?_;unfold wpOps;unfold Exit.then;dsimp only;refine zML (b:=⟨#[u,undef,v,u,.tuple #[],u,v],[]⟩) (by simp[Act.eval,Act.put]) ?_;refine zQc k15 ?_;exact⟨rfl,v,by simp[results,k21],v,rfl,hN⟩
theorem zKi{w:World}{b off cap:Nat}{zs:List Int}(hH:Holds (Value.int .i64) w b off zs.toArray)(hb:b<w.heap.size)(hsz:zs.length<4611686018427387904)(hcap:zs.length<=cap):Calls prog 250 #[.slice (some ⟨b,off,none⟩) zs.length cap] w λe w'=>e=.returned (.slice (some ⟨b,off,none⟩) (vE zs).length cap)/\uJ (λc=>c<w.heap.size/\c≠b) w w'/\∀i(h:i<(vE zs).length),w'.cell? ⟨b,off+i,none⟩=some (.int .i64 (vE zs)[i]):=by
 have hl:(zs.mergeSort λx y=>decide (x<=y)).length=zs.length:=List.length_mergeSort _;refine(zAA (zKj (cap:=cap) hH hb hsz) (N:=λw' v=>v=.slice (some ⟨b,off,none⟩) (vE zs).length cap/\uJ (λc=>c<w.heap.size/\c≠b) w w'/\∀i(h:i<(vE zs).length),w'.cell? ⟨b,off+i,none⟩=some (.int .i64 (vE zs)[i])) ?_).mono (λe w'⟨v,h1,h2,h3,h4⟩=>⟨by rw[h1,h2],h3,h4⟩);rintro w1⟨n,os,rfl⟩;have hH1:Holds (Value.int .i64) (Sort.grow (putRow (Value.int .i64) (Sort.ahead w n) b off (zs.mergeSort λx y=>decide (x<=y)).toArray) os) b off (zs.mergeSort λx y=>decide (x<=y)).toArray:=holds_grow _ _ _ _ _ _ (by simpa using hb) (holds_putRow _ _ _ _ zs.toArray _ hH (by simp[hl]));have hc:=zCr (cap:=cap) hH1 (by omega) (by omega);rw[hl]at hc;refine Calls.mono hc ?_;rintro e w2⟨rfl,q,rfl⟩;refine⟨_,rfl,?_⟩;rw[zKk];have hrl:=X2 zs;refine⟨rfl,(uJ.trans (uJ.trans (uJ.putRow _ w n b off _) ((uJ.grow _ os b).mono λk hk=>⟨by simpa using hk.1,hk.2⟩)) ((uJ.putRow _ _ q b off _).mono λk hk=>⟨?_,hk.2⟩)),λi h=>?_⟩;·show k<((putRow _ _ _ _ _).heap++os).size;simp;have:=hk.1;omega
 ·rw[cell?_putRow (Value.int .i64) _ b off (zs.mergeSort λx y=>decide (x<=y)).toArray _ (holds_ahead _ _ _ _ _ _ hH1) (by simp[hl];omega) i (by simp;omega)];simp[List.getElem?_append_left h,h]
theorem zXm:uE prog 293 [] [.sl [] 0 .no] (.sl [] 0 .no) [] 0:=uE.toFin wL mixed func293 (by kernel_rfl) 3000 [.no,.no] [] [] [] false (by kernel_rfl) (yP.cons (W7 (es:=[]) trivial) yP.nil) (by decide)
def atW(w:World):Gh:=⟨λ_=>none,λ_=>none,λ_ _=>False,w,λc=>c<w.heap.size,λ_=>False⟩
theorem zQb(w:World):yI (atW w) (yS (vH 0) (N5 [])) w:=by
 refine⟨λ_=>⟨λ_=>.inr rfl,λ_=>⟨rfl,id⟩,λe=>e.elim⟩,⟨0,λ_ _=>rfl⟩,λ_ _ _ h=>?_,λ_ _ _ h=>?_,λ_ _ h=>False.elim h,λ_ _=>rfl,λ_ h=>?_,λ_ _ _ _ _ _ _ h=>?_,uJ.refl _ _,λ_ h=>h⟩;·cases h
 ·cases h
 ·cases h
 ·cases h
theorem zMM(w:World):zAw (0:Nat) (atW w):=⟨λ_ _=>⟨rfl,id⟩,λ_=>rfl,λ_ _ h=>False.elim h,trivial⟩
theorem V.none{G G':Gh}{w w':World}{v:Value}(h:V G w (.sl [] 0 .no) v):V G' w' (.sl [] 0 .no) v:=by
 simp only[V]at h⊢;obtain⟨cap,h1,⟨_,_,h2,h3,_⟩|⟨b,off,h2,_,_⟩⟩:=h;·exact⟨cap,h1,.inl ⟨trivial,trivial,h2,h3,trivial⟩⟩
 ·exact⟨cap,h1,.inr ⟨b,off,h2,by simp only[VC],trivial⟩⟩
theorem zKh{w:World}{u:Value}{p:Option Addr}{cap:Nat}(hu:u=.slice p 0 cap){G:Gh}(hV:V G w (.sl [] 0 .no) u):Calls prog 250 #[u] w λe w'=>∃v,e=.returned v/\(uJ (λc=>c<w.heap.size) w w'/\∀G',V G' w' (.sl [] 0 .no) v):=by
 refine zAA (M:=λw1=>w1=w) (by subst hu;exact AnyM.slices_Sort_int_none Tryz.sortI p cap w) ?_;rintro w1 rfl;refine(zXm (atW w1) w1 #[u] (zMM w1) (zQb w1) ?_).mono ?_;·simp only[VL];exact⟨V.none hV,trivial⟩
 ·rintro e w2⟨v,G',s',rfl,hE,hR,hv,_⟩;refine⟨v,rfl,?_,λG'=>V.none hv⟩;have:=hR.below;rw[hE.F,hE.w0]at this;exact this
theorem VL.ints{G:Gh}{w:World}:∀l:List Int,VL G w (zH zQ l) (l.map (Value.int .i64))|[]=>by simp[zH,VL]|x::l=>by simp only[zH,List.flatMap_cons,List.map_cons];simp only[zQ,List.cons_append,List.nil_append,VL,V];exact⟨trivial,VL.ints l⟩
theorem VL.ints_eq{G:Gh}{w:World}:∀(l:List Int)(us:List Value),VL G w (zH zQ l) us->us=l.map (Value.int .i64)|[],[],_=>rfl|[],_::_,h=>by simp only[zH,List.flatMap_nil,VL]at h|x::l,[],h=>by simp only[zH,List.flatMap_cons,zQ,List.cons_append,VL]at h|x::l,u::us,h=>by simp only[zH,List.flatMap_cons,zQ,List.cons_append,List.nil_append,VL,V]at h;rw[h.1,VL.ints_eq l us h.2];rfl
theorem zAB{G:Gh}{w:World}{s:yN}{k:Nat}{l:List Int}{u:Value}(hR:yI G (yS (vH 0) s) w)(ho:s.own.any (Nat.beq k)=true)(hsz:l.length<4611686018427387904)(hu:V G w (.sl (zH zQ l) l.length (.st k 1)) u):Calls prog 250 #[u] w λe w'=>∃(v:Value)(b:Nat)(S:Nat->Nat->Prop),e=.returned v/\¬G.F b/\(∀i,G.ρ i≠some b)/\uJ (λc=>c<w.heap.size/\c≠b) w w'/\(∀c o,S c o->c=b/\∃x,w'.cell? ⟨c,o,none⟩=some x)/\∀G',(∀c o,S c o->G'.L c o)->V G' w' (.sl (zH zQ (vE l)) (vE l).length .no) v:=by
 have hempty:l=[]->∀p cap,u=.slice p 0 cap->V G w (.sl [] 0 .no) u->Calls prog 250 #[u] w λe w'=>∃(v:Value)(b:Nat)(S:Nat->Nat->Prop),e=.returned v/\¬G.F b/\(∀i,G.ρ i≠some b)/\uJ (λc=>c<w.heap.size/\c≠b) w w'/\(∀c o,S c o->c=b/\∃x,w'.cell? ⟨c,o,none⟩=some x)/\∀G',(∀c o,S c o->G'.L c o)->V G' w' (.sl (zH zQ (vE l)) (vE l).length .no) v:=by rintro rfl p cap hp hV;refine(zKh hp hV).mono ?_;rintro e w'⟨v,rfl,hK,hv⟩;exact⟨v,w.heap.size,λ_ _=>False,rfl,λh=>Nat.lt_irrefl _ (hR.base _ h),λi hi=>Nat.lt_irrefl _ (hR.ρ_lt hi),hK.mono λk hk=>hk.1,λ_ _ h=>h.elim,λG' _=>hv G'⟩
 have hu0:=hu;simp only[V]at hu;obtain⟨cap,hcap,⟨he,hn,hc0,hu',_⟩|⟨b,off,rfl,hC,hq,hO⟩⟩:=hu
 ·have hl:l=[]:=List.length_eq_zero_iff.1 hn;subst hl;exact hempty rfl (iR u) 0 hu' (by simp only[V];exact⟨0,Nat.le_refl _,.inl ⟨trivial,trivial,rfl,hu',trivial⟩⟩)
 ·rcases hO with⟨hn,_⟩|⟨hm,hF,hτ⟩
  ·have hl:l=[]:=List.length_eq_zero_iff.1 hn;subst hl;exact hempty rfl _ cap rfl (by simp only[V];exact⟨cap,Nat.zero_le _,.inr ⟨b,off,rfl,by simp only[VC],trivial⟩⟩)
  ·obtain⟨b',f,t,q1,q2⟩:=hR.own k (by rw[tY];exact ho);rw[hτ]at q1;cases q1;rcases q2 with q2|⟨_,q3,_,vs,T,q5,q6⟩;·omega
   obtain⟨us,h1,h2⟩:=VC.cells _ _ _ hC;have hus:=VL.ints_eq l us h1;subst hus;have hH:Holds (Value.int .i64) w b off l.toArray:=by
    intro j hj;have hj':j<l.length:=by simpa using hj
    refine⟨?_,by simp[World.frozen?,q5]⟩;rw[h2 j (by simpa using hj')];simp[hj']
   have hb:b<w.heap.size:=(Array.getElem?_eq_some_iff.1 q5).1;refine(zKi hH hb hsz hcap).mono ?_;rintro e w'⟨rfl,hK,hcell⟩;refine⟨_,b,λc o=>c=b/\off<=o/\o<off+(vE l).length,rfl,hF,q3,hK,?_,λG' hS=>?_⟩;·rintro c o⟨rfl,h1,h2⟩;exact⟨rfl,.int .i64 ((vE l)[o-off]'(by omega)),by have:=hcell (o-off) (by omega);rwa[show off+(o-off)=o by omega]at this⟩
   ·simp only[V];refine⟨cap,Nat.le_trans (X2 l) hcap,.inr ⟨b,off,rfl,VC.of_cells _ _ b off (VL.ints (vE l)) (λi hi=>hS _ _ ⟨rfl,by omega,?_⟩) (λi hi=>?_),trivial⟩⟩
    ·have:i<(vE l).length:=by simpa using hi
     omega
    ·rw[hcell i (by simpa using hi)];simp
end Go.Proofs.YthncchbcdpbgaaaGreat
namespace Go.Ab
open Go Go.RowKit
def mV:List (ByteArray×Int)->Nat->List MapEntry|[],_=>[]|p::m,c=>{key:=.string p.1,val:=.int .i64 p.2,born:=c}::mV m (c+1)
def X3(m:List (ByteArray×Int)):yG:=.obj (.map ⟨mV m 0⟩ m.length)
def X4:List (ByteArray×Int)->ByteArray->Int|[],_=>0|p::m,k=>if(k==p.1)=true then p.2 else X4 m k
def Q7:List (ByteArray×Int)->ByteArray->Int->List (ByteArray×Int)|[],k,v=>[(k,v)]|p::m,k,v=>if(k==p.1)=true then(k,v)::m else p::Q7 m k v
def zAt:List (ByteArray×Int)->ByteArray->Nat->Option (Nat×Value)|[],_,_=>none|p::m,k,i=>if(k==p.1)=true then some (i,.int .i64 p.2)else zAt m k (i+1)
theorem jO(k:ByteArray):∀(m:List (ByteArray×Int))(c i:Nat),Instr.findNow .string (.string k) (mV m c) i=some (zAt m k i)|[],_,_=>rfl|p::m,c,i=>by simp only[mV,Instr.findNow,Instr.sameNow,zAt];cases hb:(k==p.1)with|true=>rfl|false=>simp only[Bool.false_eq_true,if_false];exact jO k m (c+1) (i+1)
theorem zDU(k:ByteArray):∀(m:List (ByteArray×Int))(i:Nat),zMn (zAt m k i) (.int .i64 0)=ai (X4 m k)|[],_=>rfl|p::m,i=>by simp only[zAt,X4];cases hb:(k==p.1)with|true=>rfl|false=>simp only[Bool.false_eq_true,if_false];exact zDU k m (i+1)
theorem zDV(k:ByteArray)(v:Int):∀(m:List (ByteArray×Int))(c i:Nat),(match zAt m k i with|some (j,_)=>i<=j/\(mV m c).modify (j-i) (λe=>{e with key:=.string k,val:=.int .i64 v})=mV (Q7 m k v) c/\(Q7 m k v).length=m.length|none=>mV m c++[{key:=.string k,val:=.int .i64 v,born:=c+m.length}]=mV (Q7 m k v) c/\(Q7 m k v).length=m.length+1)|[],c,i=>by simp[zAt,Q7,mV]|p::m,c,i=>by simp only[zAt,Q7];cases hb:(k==p.1)with|true=>simp[mV]|false=>simp only[Bool.false_eq_true,if_false];have ih:=zDV k v m (c+1) (i+1);cases hm:zAt m k (i+1)with|none=>rw[hm]at ih;simp only at ih⊢;refine⟨?_,by simp[ih.2]⟩;simp only[mV,List.cons_append,List.length_cons];rw[<-ih.1,show c+(m.length+1)=c+1+m.length by omega]|some q=>obtain⟨j,u⟩:=q;rw[hm]at ih;simp only at ih⊢;refine⟨by omega,?_,by simp[ih.2.2]⟩;simp only[mV];rw[show j-i=(j-(i+1))+1 by omega,List.modify_succ_cons,ih.2.1]
variable{P:Program}{t kt et:TypeId}{ie:TypeInfo}
theorem zXl(ht:P.underlying t=some (.map kt et))(hk:P.underlying kt=some .string)(he:P.info? et=some ie)(hz:ie.zero=some (.int .i64 0))(m:List (ByteArray×Int))(k:ByteArray):Ob.ok P (.lk t (X3 m) (at' k) false (ai (X4 m k))):=by intro ev i s hl;unfold jA;simp only[ht,at',hk,he,X3]at hl⊢;simp only[hl,hz,jO,sV,cond_true,Bool.false_eq_true,if_false,zDU]
theorem zXk(ht:P.underlying t=some (.map kt et))(hk:P.underlying kt=some .string)(m:List (ByteArray×Int))(k:ByteArray)(v:Int):Ob.ok P (.mu t (X3 m) (at' k) (ai v) (X3 (Q7 m k v))):=by intro ev i s hl;unfold rJ;simp only[ht,at',ai,hk,X3]at hl⊢;simp only[hl,jO,sV,cond_true];have h:=zDV k v m 0 0;cases hm:zAt m k 0 with|none=>rw[hm]at h;simp only[Nat.zero_add]at h⊢;rw[h.2,<-h.1];simp|some q=>
 obtain⟨j,u⟩:=q;rw[hm]at h;simp only[Nat.sub_zero]at h⊢;have e:(⟨mV m 0⟩:Array MapEntry).modify j (λe=>{e with key:=.string k,val:=.int .i64 v})=⟨mV (Q7 m k v) 0⟩:=by apply Array.ext';rw[Array.toList_modify];exact h.2.1
 rw[h.2.2,e]
def O0(s:ByteArray)(i:Int):Option Int:=if 0<=i then(match s[i.toNat]? with|some b=>some (b.toNat:Int)|none=>none)else none
theorem zMN{k:IntKind}(ht:P.underlying t=some .string){s:ByteArray}{i x:Int}(h:O0 s i=some x):lM P t (at' s) (.val (.int k i))=some (.val (.int .u8 x)):=by
 unfold O0 at h;unfold lM;simp only[ht,at'];split at h
 ·rename_i h0;rw[if_pos h0];split at h
  ·rename_i b hb;cases h;rw[hb]
  ·cases h
 ·cases h
theorem zDW:∀l:List U8,bF (zH aC l)=some l|[]=>rfl|x::l=>by have:=zDW l;unfold zH at this⊢;rw[List.flatMap_cons];show(bF (l.flatMap aC)).map (x::·)=_;rw[this];rfl
theorem zMO{d e:TypeId}(hs:P.underlying t=some (.slice e))(hd:P.underlying d=some .string)(he:P.underlying e=some (.int .u8))(l:List U8){o:pF}:lZ P t d (.sl (zH aC l) l.length o)=some (at' (qK l)):=by unfold lZ;simp only[hs,hd,he,zDW];rfl
end Go.Ab
namespace Go.Ab
open Go Go.RowKit
structure Sub(G G':Gh)(p:Nat->Prop):Prop where
 F:G'.F=G.F
 ρ:∀i b,p i->G.ρ i=some b->G'.ρ i=some b
 τ:∀k q,G.τ k=some q->G'.τ k=some q
 L:∀b o,G.L b o->G'.L b o
 N:∀i,p i->G.N i->G'.N i
mutual theorem V.less{G G':Gh}{w:World}{p:Nat->Prop}(h:Sub G G' p):∀(a:AV)(u:Value),a.fine p->V G w a u->V G' w a u
 |.val v,u,_,hv=>by simpa only[V]using hv|.agg cs,u,hi,hv=>by simp only[V,AV.fine]at hi hv⊢;obtain⟨vs,rfl,hl⟩:=hv;exact⟨vs,rfl,VL.less h cs vs hi hl⟩|.tup cs,u,hi,hv=>by simp only[V,AV.fine]at hi hv⊢;obtain⟨vs,rfl,hl⟩:=hv;exact⟨vs,rfl,VL.less h cs vs hi hl⟩|.sl es n o,u,hi,hv=>by
  simp only[V,AV.fine]at hi hv⊢;obtain⟨cap,hc,hh⟩:=hv;refine⟨cap,hc,?_⟩;rcases hh with⟨rfl,h2,h3,h4,h5⟩|⟨b,off,hu,hcells,ho⟩;·exact .inl ⟨rfl,h2,h3,h4,h5.mono h.τ⟩
  ·exact .inr ⟨b,off,hu,VC.data h.L es b off hi hcells,ho.mono h.F h.τ⟩|.ip es,u,hi,hv=>by simp only[V,AV.fine]at hi hv⊢;obtain⟨b,off,hu,hcells⟩:=hv;exact⟨b,off,hu,VC.data h.L es b off hi hcells⟩|.mp i off,u,hi,hv=>by simp only[V,AV.fine]at hi hv⊢;obtain⟨b,hb,hu⟩:=hv;exact⟨b,h.ρ _ _ hi hb,hu⟩|.ms i off n c sz,u,hi,hv=>by
  simp only[V,AV.fine]at hi hv⊢;rcases hv with⟨b,cap,hb,hu⟩|⟨hn,hN,hu⟩;·exact .inl ⟨b,cap,h.ρ _ _ hi hb,hu⟩
  ·exact .inr ⟨hn,h.N _ hi hN,hu⟩|.obj i,u,hi,hv=>by simp only[V,AV.fine]at hi hv⊢;obtain⟨b,hb,hu⟩:=hv;exact⟨b,h.ρ _ _ hi hb,hu⟩|.clo g fs cs,u,hi,hv=>by simp only[V,AV.fine]at hi hv⊢;obtain⟨l,r',hu,h1,h2⟩:=hv;exact⟨l,r',hu,VL.less h fs l hi.1 h1,VL.less h cs r' hi.2 h2⟩theorem VL.less{G G':Gh}{w:World}{p:Nat->Prop}(h:Sub G G' p):∀(as0:List AV)(us:List Value),AV.fineL p as0->VL G w as0 us->VL G' w as0 us|[],[],_,_=>by simp only[VL]|a::as0,u::us,hi,hv=>by simp only[VL,AV.fineL]at hi hv⊢;exact⟨V.less h a u hi.1 hv.1,VL.less h as0 us hi.2 hv.2⟩|[],_::_,_,hv=>by simp only[VL]at hv|_::_,[],_,hv=>by simp only[VL]at hv end
mutual def AV.fz(m:Nat)(cs:List AV):AV->AV|.val v=>.val v|.agg l=>.agg (AV.fzL m cs l)|.tup l=>.tup (AV.fzL m cs l)|.sl es n o=>.sl es n o|.ip es=>.ip es|.mp i off=>.mp i off|.ms i off n c sz=>bif Nat.beq i m then .sl (cs.drop off) n .no else .ms i off n c sz|.obj i=>.obj i|.clo g a b=>.clo g a b def AV.fzL(m:Nat)(cs:List AV):List AV->List AV|[]=>[]|a::l=>AV.fz m cs a::AV.fzL m cs l end
mutual def AV.fzOk(m:Nat):AV->Prop|.val _=>True|.agg l=>AV.fzOkL m l|.tup l=>AV.fzOkL m l|.sl es _ _=>AV.DataL es|.ip es=>AV.DataL es|.mp i _=>i<m|.ms i off _ _ _=>(i=m/\off=0)\/i<m|.obj i=>i<m|.clo _ a b=>AV.fineL (λi=>i<m) a/\AV.fineL (λi=>i<m) b def AV.fzOkL(m:Nat):List AV->Prop|[]=>True|a::l=>AV.fzOk m a/\AV.fzOkL m l end
theorem X5:∀(l:List AV)(n:Nat),AV.DataL l->AV.DataL (l.drop n)|l,0,h=>by simpa using h|[],_+1,_=>trivial|_::l,n+1,h=>by simpa using X5 l n h.2
mutual theorem AV.fz_fine{m:Nat}{cs:List AV}(hc:AV.DataL cs):∀a:AV,a.fzOk m->(a.fz m cs).fine (λi=>i<m)
 |.val _,_=>trivial|.agg l,h=>AV.fzL_fine hc l h|.tup l,h=>AV.fzL_fine hc l h|.sl _ _ _,h=>h|.ip _,h=>h|.mp _ _,h=>h|.ms i off n c sz,h=>by simp only[AV.fz];cases hb:Nat.beq i m with|true=>exact X5 _ _ hc|false=>
  rcases h with⟨rfl,_⟩|h;·simp at hb
  ·exact h|.obj _,h=>h|.clo _ _ _,h=>h theorem AV.fzL_fine{m:Nat}{cs:List AV}(hc:AV.DataL cs):∀l:List AV,AV.fzOkL m l->AV.fineL (λi=>i<m) (AV.fzL m cs l)|[],_=>trivial|a::l,h=>⟨AV.fz_fine hc a h.1,AV.fzL_fine hc l h.2⟩end
mutual theorem V.fz{G G':Gh}{w:World}{m:Nat}{cs:List AV}(h:Sub G G' (λi=>i<m))(hm:∀b,G.ρ m=some b->VC G' w cs b 0)(hc:G.N m->cs=[]):∀(a:AV)(u:Value),a.fzOk m->V G w a u->V G' w (a.fz m cs) u
 |.val v,u,_,hv=>by simpa only[AV.fz,V]using hv|.agg l,u,hi,hv=>by simp only[V,AV.fzOk,AV.fz]at hi hv⊢;obtain⟨vs,rfl,hl⟩:=hv;exact⟨vs,rfl,VL.fz h hm hc l vs hi hl⟩|.tup l,u,hi,hv=>by simp only[V,AV.fzOk,AV.fz]at hi hv⊢;obtain⟨vs,rfl,hl⟩:=hv;exact⟨vs,rfl,VL.fz h hm hc l vs hi hl⟩|.sl es n o,u,hi,hv=>V.less h (.sl es n o) u hi hv|.ip es,u,hi,hv=>V.less h (.ip es) u hi hv|.mp i off,u,hi,hv=>V.less h (.mp i off) u hi hv|.ms i off n c sz,u,hi,hv=>by simp only[AV.fz];cases hb:Nat.beq i m with
  |false=>
   rcases hi with⟨rfl,_⟩|hi;·simp at hb
   ·exact V.less h (.ms i off n c sz) u hi hv|true=>
   have:=Nat.eq_of_beq_eq_true hb;subst this;simp only[V,cond_true]at hv⊢;rcases hi with⟨_,e0⟩|hi
   ·subst e0;rcases hv with⟨b,cap,hb',hn,o,rfl,hro⟩|⟨⟨e1,_⟩,hN,p,rfl⟩
    ·rcases hro with⟨eo,_⟩|⟨_,h0⟩
     ·subst eo;exact⟨cap,Nat.le_trans hn.1 hn.2,.inr ⟨b,_,rfl,by simpa using hm b hb',trivial⟩⟩
     ·exact absurd h0 (Nat.lt_irrefl _)
    ·rw[hc hN];subst e1;exact⟨0,Nat.le_refl 0,.inl ⟨rfl,(by first|rfl|trivial),(by first|rfl|trivial),rfl,trivial⟩⟩
   ·exact absurd hi (Nat.lt_irrefl _)
 |.obj i,u,hi,hv=>V.less h (.obj i) u hi hv|.clo g a b,u,hi,hv=>V.less h (.clo g a b) u hi hv theorem VL.fz{G G':Gh}{w:World}{m:Nat}{cs:List AV}(h:Sub G G' (λi=>i<m))(hm:∀b,G.ρ m=some b->VC G' w cs b 0)(hc:G.N m->cs=[]):∀(as0:List AV)(us:List Value),AV.fzOkL m as0->VL G w as0 us->VL G' w (AV.fzL m cs as0) us|[],[],_,_=>by simp only[AV.fzL,VL]|a::as0,u::us,hi,hv=>by simp only[VL,AV.fzOkL,AV.fzL]at hi hv⊢;exact⟨V.fz h hm hc a u hi.1 hv.1,VL.fz h hm hc as0 us hi.2 hv.2⟩|[],_::_,_,hv=>by simp only[VL]at hv|_::_,[],_,hv=>by simp only[VL]at hv end
def zDX(m:Nat):List (Nat×yG)->List (Nat×yG)|[]=>[]|p::l=>bif Nat.blt p.1 m then p::zDX m l else zDX m l
theorem fS{m:Nat}:∀(l:List (Nat×yG))(i:Nat),look (zDX m l) i=if i<m then look l i else none|[],i=>by simp[zDX,look]|p::l,i=>by simp only[zDX];cases hb:Nat.blt p.1 m with
 |true=>have hb':p.1<m:=Nat.le_of_ble_eq_true hb;simp only[cond_true,look,fS l i];cases he:Nat.beq i p.1 with|true=>have:=Nat.eq_of_beq_eq_true he;simp only[cond_true];rw[if_pos (by omega)]|false=>simp only[cond_false]
 |false=>
  have hb':¬p.1<m:=by intro h;rw[Nat.blt,Nat.ble_eq_true_of_le h]at hb;cases hb
  simp only[cond_false,look,fS l i];cases he:Nat.beq i p.1 with|true=>have:=Nat.eq_of_beq_eq_true he;rw[if_neg (by omega),if_neg (by omega)]|false=>simp only[cond_false]
def yG.alive:yG->Bool|.dead=>false|_=>true
theorem uE.freeze{P:Program}{f:FuncId}{H0 H1:List yG}{args cs:List AV}{res:AV}{nst:Nat}(h:uE P f H0 args res (H1++[.row cs]) nst)(hle:H0.length<=H1.length)(hH1:∀X∈H1,X.fine (λi=>i<H1.length))(hcs:AV.DataL cs)(hr:res.fzOk H1.length)(hnd:H1.all yG.alive=true):uE P f H0 args (res.fz H1.length cs) H1 nst:=by
 intro G0 W cargs hB hR hv;refine(h G0 W cargs hB hR hv).mono ?_;rintro e W'⟨u,G',s',rfl,hE,hR',hu,hb,ho⟩;have hm:look s'.H H1.length=some (.row cs):=hb H1.length _ (by simp);have hm':(yS (vH 0) s').H H1.length=some (.row cs):=by rw[xK];exact hm
 have real:∀b,G'.ρ H1.length=some b->¬G'.F b/\∃us:List Value,us.length=cs.length/\VL G' W' cs us/\∀i(hi:i<us.length),W'.cell? ⟨b,0+i,none⟩=some us[i]:=by
  intro b hρ;obtain⟨hF,vs,T,hh,us,rest,hus,hvl⟩:=hR'.blk H1.length b _ hρ hm';refine⟨hF,us,VL.length _ _ hvl,hvl,λi hi=>?_⟩;have:vs[i]?=some us[i]:=by
   have h1:vs.toList[i]?=some us[i]:=by rw[hus,List.getElem?_append_left hi,List.getElem?_eq_getElem hi]
   simpa using h1
  rw[Nat.zero_add];simp[World.cell?,hh,this]
 have hNn:G'.N H1.length->cs=[]:=λe=>yG.void_row (hR'.Nvoid e hm');let G'':Gh:={G' with ρ:=λi=>if i<H1.length then G'.ρ i else none,L:=λc o=>G'.L c o\/(G'.ρ H1.length=some c/\o<cs.length),N:=λi=>i<H1.length/\G'.N i};have hS:Sub G' G'' (λi=>i<H1.length):=⟨rfl,λi b hi e=>by show(if i<H1.length then G'.ρ i else none)=_;rw[if_pos hi];exact e,λ_ _ e=>e,λ_ _ e=>.inl e,λ_ hi e=>⟨hi,e⟩⟩;have hC:∀b,G'.ρ H1.length=some b->VC G'' W' cs b 0:=λb hρ=>by obtain⟨_,us,hlen,hvl,hcell⟩:=real b hρ;exact VC.of_cells cs us b 0 (VL.data hS.L cs us hcs hvl) (λi hi=>.inr ⟨hρ,by omega⟩) hcell
 have hσ:∀i,(yS (vH 0) {s' with H:=zDX H1.length s'.H}).H i=if i<H1.length then look s'.H i else none:=λi=>by rw[xK];exact fS _ _
 have hσ':∀i,(yS (vH 0) s').H i=look s'.H i:=λi=>xK _ _;refine⟨u,G'',{s' with H:=zDX H1.length s'.H},rfl,⟨λi c hc=>?_,hE.τ,λc o e=>.inl (hE.L c o e),hE.cell,hE.w0,hE.F,λc o e=>?_,hE.room,λi e=>?_⟩,⟨λi=>?_,⟨H1.length,λi hi=>?_⟩,λi j c hi hj=>?_,λi c X hi hX=>?_,λc o hL=>?_,hR'.τns,λk hk=>?_,hR'.ownd,hR'.below,hR'.base⟩,V.fz hS hC hNn _ _ hr hu,λi X hX=>?_,ho⟩
 ·have hi:i<H0.length:=Nat.lt_of_not_le λhge=>by rw[(hB.ρ i hge).1]at hc;cases hc
  show(if i<H1.length then G'.ρ i else none)=_;rw[if_pos (by omega)];exact hE.ρ i c hc
 ·rcases e with e|⟨e,_⟩;·exact hE.newL c o e
  ·exact .inr (by rw[<-hE.F];exact(real c e).1)
 ·have hi:i<H0.length:=Nat.lt_of_not_le λhge=>(hB.ρ i hge).2 e;exact⟨by omega,hE.N i e⟩
 ·rw[hσ];show kZ (if i<H1.length then G'.ρ i else none) (i<H1.length/\G'.N i) _;have hd:=hR'.dom i;rw[hσ']at hd;split;·rename_i hi;exact⟨λq=>(hd.1 q).imp (λr=>⟨hi,r⟩) id,λq=>⟨(hd.2.1 q).1,λr=>(hd.2.1 q).2 r.2⟩,λr=>hd.2.2 r.2⟩
  ·rename_i hi;exact⟨λ_=>.inr rfl,λ_=>⟨rfl,λr=>hi r.1⟩,λr=>absurd r.1 hi⟩
 ·rw[hσ,if_neg (by omega)]
 ·have hi':(if i<H1.length then G'.ρ i else none)=some c:=hi;have hj':(if j<H1.length then G'.ρ j else none)=some c:=hj;split at hi'
  ·split at hj'
   ·rename_i h1 h2;rw[hσ,hσ,if_pos h1,if_pos h2,<-hσ',<-hσ'];exact hR'.inj i j c hi' hj'
   ·cases hj'
  ·cases hi'
 ·have hi':(if i<H1.length then G'.ρ i else none)=some c:=hi;split at hi'
  ·rename_i hlt;rw[hσ,if_pos hlt]at hX;obtain⟨q1,q2⟩:=hR'.blk i c X hi' (by rw[hσ'];exact hX);refine⟨q1,?_⟩;have hget:(H1++[.row cs])[i]?=some H1[i]:=by rw[List.getElem?_append_left hlt,List.getElem?_eq_getElem hlt]
   have:=hb i _ hget;rw[this]at hX;cases hX;have hf:=hH1 _ (List.getElem_mem hlt);cases hY:H1[i]with|cells ds=>rw[hY]at q2 hf;obtain⟨vs',T',q3,q4⟩:=q2;exact⟨vs',T',q3,q4.imp λus=>VL.less hS _ us hf⟩|obj o=>rw[hY]at q2;exact q2|row ds=>rw[hY]at q2 hf;obtain⟨vs',T',q3,q4⟩:=q2;exact⟨vs',T',q3,q4.imp λus=>VL.data hS.L _ us hf⟩|dead=>rw[hY]at q2;exact q2
  ·cases hi'
 ·rcases hL with hL|⟨hρ,hlt⟩
  ·obtain⟨q1,q2⟩:=hR'.live c o hL;refine⟨q1,λi hi=>?_⟩;have hi':(if i<H1.length then G'.ρ i else none)=some c:=hi;split at hi';·exact q2 i hi'
   ·cases hi'
  ·obtain⟨_,us,hlen,hvl,hcell⟩:=real c hρ;refine⟨⟨us[o]'(by omega),?_⟩,λi hi=>?_⟩
   ·have:=hcell o (by omega);rwa[Nat.zero_add]at this
   ·have hi':(if i<H1.length then G'.ρ i else none)=some c:=hi;split at hi'
    ·rename_i hlt';have hi2:look s'.H i=some H1[i]:=hb i _ (by rw[List.getElem?_append_left hlt',List.getElem?_eq_getElem hlt']);rcases hR'.inj i H1.length c hi' hρ with this|this|this;·omega
     ·rw[hσ',hi2]at this;have h3:=List.all_eq_true.1 hnd _ (List.getElem_mem hlt');rw[Option.some.inj this]at h3;cases h3
     ·rw[hσ',hm]at this;cases this
    ·cases hi'
 ·obtain⟨c,f1,t,q1,q2|⟨q2,q3,q4,q5⟩⟩:=hR'.own k hk;·exact⟨c,f1,t,q1,.inl q2⟩
  ·refine⟨c,f1,t,q1,.inr ⟨q2,λi hi=>?_,λo h1 h2 hL=>?_,q5⟩⟩
   ·have hi':(if i<H1.length then G'.ρ i else none)=some c:=hi;split at hi';·exact q3 i hi'
    ·cases hi'
   ·rcases hL with hL|⟨hρ,_⟩;·exact q4 o h1 h2 hL
    ·exact q3 _ hρ
 ·have hlt:=(List.getElem?_eq_some_iff.1 hX).1;show look (zDX H1.length s'.H) i=some X;rw[fS,if_pos hlt];exact hb i X (by rw[List.getElem?_append_left hlt];exact hX)
theorem CT.freeze{P:Program}{f:FuncId}{H0 H1:List yG}{args cs:List AV}{res res':AV}{nst:Nat}(h:CT P f H0 args res (H1++[.row cs]) nst)(hle:H0.length<=H1.length)(hH1:∀X∈H1,X.fine (λi=>i<H1.length))(hcs:AV.DataL cs)(hr:res.fzOk H1.length)(hnd:H1.all yG.alive=true)(e:res.fz H1.length cs=res'):CT P f H0 args res' H1 nst:=by subst e;exact⟨h.tri.freeze hle hH1 hcs hr hnd,h.args,h.H0,AV.fz_fine hcs _ hr,hH1⟩
theorem zKg{G0 G':Gh}{W W':World}{s':yN}{u:Value}(sz:Nat)(hB:zAw (0:Nat) G0)(hE:wK G0 W G' W')(hR':yI G' (yS (vH 0) s') W')(hu:∃cap b o,(cap=0)/\(u=.slice (iR u) 0 0\/u=.slice (some ⟨b,o,none⟩) 0 cap)):∃u' G'' s'',Ending.returned u=.returned u'/\wK G0 W G'' W'/\yI G'' (yS (vH 0) s'') W'/\V G'' W' (.sl [] 0 (.st 0 sz)) u'/\(∀i X,([]:List yG)[i]?=some X->look s''.H i=some X)/\∀k,k<1->s''.own.any (Nat.beq k)=true:=by
 let G'':Gh:={G' with ρ:=λ_=>none,τ:=λk=>if k=0 then some (0,1,0)else none,N:=λ_=>False};refine⟨u,G'',{s' with H:=[],own:=[0],ns:=1},rfl,⟨λi c hc=>?_,λk r hk=>?_,hE.L,hE.cell,hE.w0,hE.F,hE.newL,λi c m hc=>?_,λi e=>absurd e (hB.ρ i (Nat.zero_le _)).2⟩,⟨λi=>?_,⟨0,λi _=>?_⟩,λi j c hi=>?_,λi c X hi=>?_,λc o hL=>?_,λk hk=>?_,λk hk=>?_,λk k' _ _ _ _ _ hk hk'=>?_,hR'.below,hR'.base⟩,?_,λi X hX=>?_,λk hk=>?_⟩;·rw[(hB.ρ i (Nat.zero_le _)).1]at hc;cases hc
 ·rw[hB.τ k]at hk;cases hk
 ·rw[(hB.ρ i (Nat.zero_le _)).1]at hc;cases hc
 ·rw[xK];exact⟨λ_=>.inr rfl,λ_=>⟨rfl,id⟩,λe=>e.elim⟩
 ·rw[xK];rfl
 ·cases hi
 ·cases hi
 ·exact⟨(hR'.live c o hL).1,λi hi=>by cases hi⟩
 ·have hk1:1<=k:=hk;show(if k=0 then some (0,1,0)else none)=none;rw[if_neg (by omega)]
 ·rw[tY]at hk;have e:k=0:=by simpa using hk
  subst e;exact⟨0,1,0,rfl,.inl (by decide)⟩
 ·rw[tY]at hk hk';have e:k=0:=by simpa using hk
  have e':k'=0:=by simpa using hk'
  intros;omega
 ·obtain⟨cap,b,o,rfl,hu|rfl⟩:=hu
  ·simp only[V];exact⟨0,Nat.le_refl 0,.inl ⟨(by trivial),(by trivial),(by trivial),hu,_,rfl⟩⟩
  ·simp only[V];exact⟨0,Nat.le_refl 0,.inl ⟨(by trivial),(by trivial),(by trivial),(by first|rfl|trivial),_,rfl⟩⟩
 ·cases hX
 ·have:k=0:=by omega
  subst this;rfl
theorem uE.freezeZ{P:Program}{f:FuncId}{args cs:List AV}{n c sz:Nat}(h:uE P f [] args (.ms 0 0 n c sz) [.row cs] 0)(hn0:n=0):uE P f [] args (.sl [] 0 (.st 0 sz)) [] 1:=by
 intro G0 W cargs hB hR hv;refine(h G0 W cargs hB hR hv).mono ?_;rintro e W'⟨u,G',s',rfl,hE,hR',hu,hb,-⟩;have hm:look s'.H 0=some (.row cs):=hb 0 _ (by simp);have hm':(yS (vH 0) s').H 0=some (.row cs):=by rw[xK];exact hm
 simp only[V]at hu;rcases hu with⟨b,cap,hρ,hn,o,rfl,hro⟩|⟨⟨e0,_⟩,hN,p,rfl⟩;rotate_left
 ·have hcs0:=yG.void_row (hR'.Nvoid hN hm');subst e0;try subst hcs0
  exact zKg sz hB hE hR' ⟨0,0,0,rfl,.inl rfl⟩
 obtain⟨hF,vs,T,hh,us,rest,hus,hvl⟩:=hR'.blk 0 b _ hρ hm';have hlen:=VL.length _ _ hvl;rcases hro with⟨rfl,vs2,T2,hh2,hroom⟩|⟨_,h0⟩;rotate_left;·exact absurd h0 (Nat.lt_irrefl _)
 rw[hh]at hh2;cases hh2;let G'':Gh:={G' with ρ:=λ_=>none,τ:=λk=>if k=0 then some (b,0+0,0+cap*sz)else none,N:=λ_=>False};refine⟨_,G'',{s' with H:=[],own:=[0],ns:=1},rfl,⟨λi c hc=>?_,λk r hk=>?_,hE.L,hE.cell,hE.w0,hE.F,hE.newL,λi c m hc=>?_,λi e=>absurd e (hB.ρ i (Nat.zero_le _)).2⟩,⟨λi=>?_,⟨0,λi _=>?_⟩,λi j c hi=>?_,λi c X hi=>?_,λc o hL=>?_,λk hk=>?_,λk hk=>?_,λk k' _ _ _ _ _ hk hk'=>?_,hR'.below,hR'.base⟩,?_,λi X hX=>?_,λk hk=>?_⟩;·rw[(hB.ρ i (Nat.zero_le _)).1]at hc;cases hc
 ·rw[hB.τ k]at hk;cases hk
 ·rw[(hB.ρ i (Nat.zero_le _)).1]at hc;cases hc
 ·rw[xK];exact⟨λ_=>.inr rfl,λ_=>⟨rfl,id⟩,λe=>e.elim⟩
 ·rw[xK];rfl
 ·cases hi
 ·cases hi
 ·exact⟨(hR'.live c o hL).1,λi hi=>by cases hi⟩
 ·have hk1:1<=k:=hk;show(if k=0 then some (b,0+0,0+cap*sz)else none)=none;rw[if_neg (by omega)]
 ·rw[tY]at hk;have e:k=0:=by simpa using hk
  subst e;exact⟨b,0+0,0+cap*sz,rfl,.inr ⟨hF,λi hi=>(by cases hi),λo h1 h2 hL=>(hR'.live b o hL).2 0 hρ,vs,T,hh,hroom⟩⟩
 ·rw[tY]at hk hk';have e:k=0:=by simpa using hk
  have e':k'=0:=by simpa using hk'
  intros;omega
 ·simp only[V];subst hn0;exact⟨cap,Nat.zero_le _,.inr ⟨b,0,rfl,by simp only[VC],⟨_,rfl⟩,.inr ⟨by simp,hF,rfl⟩⟩⟩
 ·cases hX
 ·have:k=0:=by omega
  subst this;rfl
theorem CT.freezeZ{P:Program}{f:FuncId}{args cs:List AV}{n c sz:Nat}(h:CT P f [] args (.ms 0 0 n c sz) [.row cs] 0)(hn0:n=0):CT P f [] args (.sl [] 0 (.st 0 sz)) [] 1:=⟨h.tri.freezeZ hn0,h.args,h.H0,trivial,λ_ h=>nomatch h⟩
def gmk{α:Type}(B:Int)(d:α)(n:Int):Option (List α):=if 0<=n/\n*B<=140737488355328 then some (List.replicate n.toNat d)else none
def mO(n:Nat)(i:Int):Option Nat:=if 0<=i/\i<n then some i.toNat else none
def cG{α:Type}(l:List α)(k:Nat)(x:α):Option (List α):=if k<l.length then some (l.set k x)else none
def gfz{α:Type}(n:Nat)(l:List α):Option (List α):=if l.length=n then some l else none
theorem gM{α:Type}{n:Nat}{l r:List α}(h:gfz n l=some r):r=l/\n=r.length:=by
 unfold gfz at h;split at h;·rename_i e;cases h;exact⟨rfl,e.symm⟩
 ·cases h
theorem zAC{f:Nat->AV}{s:Nat}(hs:0<s):∀n:Nat,(List.range (n*s)).map (λj=>f (j%s))=(List.replicate n ((List.range s).map f)).flatten|0=>by simp|n+1=>by rw[Nat.add_mul,Nat.one_mul,List.range_add,List.map_append,zAC hs n,List.replicate_succ',List.flatten_append];congr 1;simp only[List.map_map,List.flatten_cons,List.flatten_nil,List.append_nil];apply List.map_congr_left;intro j hj;have:j<s:=List.mem_range.1 hj;simp[Function.comp,Nat.add_comm (n*s) j,Nat.mod_eq_of_lt this]
theorem zDY{α:Type}{c:α->List AV}{d:α}:∀n:Nat,(List.replicate n (c d)).flatten=zH c (List.replicate n d)|0=>rfl|n+1=>by simp only[List.replicate_succ,List.flatten_cons,zH,List.flatMap_cons];rw[zDY n];rfl
theorem zMR{P:Program}{α:Type}{c:α->List AV}{sz:Nat}{t e:TypeId}{ie:TypeInfo}{z:Value}(ht:P.underlying t=some (.slice e))(hi:P.info? e=some ie)(hs:ie.size=sz)(hz:ie.zero=some z)(hzs:z.cells.size=sz)(h1:1<=sz){B:Nat}(hb:ie.bytes=B)(hB:1<=B){d:α}(hd:(List.range sz).map (λj=>(ofV 8 (z.cells.getD j undef)).frz)=c d){n:Int}{l:List α}(h:gmk (B:Int) d n=some l):Ob.ok P (.mk (qP P t (ai n) (ai n)) (zH c l) l.length):=by
 unfold gmk at h;split at h
 ·rename_i hc;cases h;show qP P t (ai n) (ai n)=some (zH c (List.replicate n.toNat d),(List.replicate n.toNat d).length);unfold qP;simp only[ht,hi,hz];have hb':(B:Int)>=1:=by omega
  have hn:n<=n*B:=by have:=Int.mul_le_mul_of_nonneg_left hb' hc.1;simpa using this
  rw[if_pos ⟨trivial,hc.1,by rw[hb];exact hc.2,by omega,by rw[hzs,hs],by rw[hs];exact h1⟩];simp only[List.length_replicate,Option.some.injEq,Prod.mk.injEq,and_true];rw[hs,hzs,zAC h1 (f:=λj=>(ofV 8 (z.cells.getD j undef)).frz),hd,zDY]
 ·cases h
theorem zCq{P:Program}{t e:TypeId}{ie:TypeInfo}(ht:P.underlying t=some (.slice e))(hi:P.info? e=some ie){sz:Nat}(hs:ie.size=sz){b n k c z:Nat}{i:Int}(h:mO n i=some k):xI P t (.ms b 0 n c z) (ai i)=some (.mp b (k*sz)):=by
 unfold mO at h;split at h
 ·rename_i hc;cases h;unfold xI;simp only[ht,hi];rw[if_pos hc,hs,Nat.zero_add]
 ·cases h
theorem zQa{α:Type}{c:α->List AV}{sz:Nat}(hc:vG c sz){l:List α}{k:Nat}{x:α}(h:zO l (k:Int)=some x):(zH c l).drop (k*sz)=c x++zH c (l.drop (k+1)):=by obtain⟨_,_,h2⟩:=kG h;exact zCv hc.len (by simpa using h2)
theorem zDZ{α:Type}{c:α->List AV}{sz:Nat}(hc:∀x,(c x).length=sz):∀(l:List α)(k:Nat)(x:α),k<l.length->splice (zH c l) (k*sz) (c x)=zH c (l.set k x)
 |[],k,x,h=>by simp at h|y::l,0,x,h=>by simp only[splice,Nat.zero_mul,List.take_zero,List.nil_append,Nat.zero_add,zH,List.flatMap_cons,List.set_cons_zero];rw[List.drop_left' (by rw[hc,hc])]|y::l,k+1,x,h=>by
  have ih:=zDZ hc l k x (by simpa using h);simp only[splice,zH]at ih;simp only[splice,zH,List.flatMap_cons,List.set_cons_succ];rw[<-ih];have e:(k+1)*sz=sz+k*sz:=by rw[Nat.add_mul,Nat.one_mul,Nat.add_comm]
  rw[e,List.take_append,List.take_of_length_le (by rw[hc];omega),hc,Nat.add_sub_cancel_left,show sz+k*sz+(c x).length=sz+(k*sz+(c x).length)by omega,<-List.drop_drop,List.drop_left' (hc y)];simp only[List.append_assoc]
theorem zIb{P:Program}{α:Type}{c:α->List AV}{sz:Nat}(hc:vG c sz){l l2:List α}{k:Nat}{x:α}(h:cG l k x=some l2):Ob.ok P (.wt (zH c l) (k*sz) (.agg (c x)) sz (zH c l2)):=by
 unfold cG at h;split at h;·rename_i hk;cases h;refine⟨hc.one x,hc.len x,?_,zDZ hc.len l k x hk⟩;rw[uA hc.len];have:=Nat.mul_le_mul_right sz (show k+1<=l.length from hk);rw[Nat.add_mul,Nat.one_mul]at this;exact this
 ·cases h
theorem zMS{P:Program}{α:Type}{c:α->List AV}{a:α->AV}(hc:vG c 1)(ha:∀x,c x=[a x])(hs:∀x,(a x).sound=true/\sQ (a x)=[a x]){l l2:List α}{k:Nat}{x:α}(h:cG l k x=some l2):Ob.ok P (.wt (zH c l) (k*1) (a x) 1 (zH c l2)):=by obtain⟨_,h2,h3,h4⟩:=zIb (P:=P) hc h;refine⟨(hs x).1,by rw[(hs x).2];rfl,h3,?_⟩;rw[(hs x).2];have h4':splice (zH c l) (k*1) (c x)=zH c l2:=h4;rw[ha]at h4';exact h4'
theorem O1{P:Program}{α:Type}{c:α->List AV}{sz:Nat}(hc:vG c sz){t e:TypeId}{ie:TypeInfo}(ht:P.underlying t=some (.slice e))(hi:P.info? e=some ie)(hs:ie.size=sz){l r:List α}{b:Int}{k k':IntKind}{o:pF}(h:sN l 0 b=some r):vY P t (.sl (zH c l) l.length o) none (some (.val (.int k b))) (some (.val (.int k' b)))=some (.sl (zH c r) r.length .full):=by
 obtain⟨_,h1,h2,rfl⟩:=W6 h;subst hs;have key:vY P t (.sl (zH c l) l.length o) none (some (.val (.int k b))) (some (.val (.int k' b)))=some (.sl (zH c (l.take b.toNat)) (l.take b.toNat).length (o.cut 0 b.toNat (Nat.beq b.toNat l.length) (Nat.beq b.toNat b.toNat))):=by
  unfold vY;simp only[ht,hi,amx,U7,wE];rw[if_pos ⟨h1,h2⟩];simp only[Option.map_some];have hbb:(0<=b/\b<=(b.toNat:Nat)):=⟨h1,by omega⟩;rw[if_pos hbb];simp only[Option.isSome_some,Option.isNone_some,Bool.false_eq_true,and_false,if_false];rw[if_pos (by rw[uA hc.len];simp)];simp only[Nat.sub_zero,Nat.zero_mul,List.drop_zero,Bool.true_and];rw[fR hc.len];have hl:(l.take b.toNat).length=b.toNat:=by simp;omega
  rw[hl]
 rw[key];simp only[pF.cut,Nat.beq_refl,if_true,Int.sub_zero,Int.toNat_zero,List.drop_zero]
def zKf(n:Nat)(a b:Int):Option (Nat×Nat):=if 0<=a/\a<=b/\b<=n then some (a.toNat,(b-a).toNat)else none
theorem zKe{n:Nat}{a b:Int}{r:Nat×Nat}(h:zKf n a b=some r):0<=a/\a<=b/\b<=n/\r.1=a.toNat/\r.2=b.toNat-a.toNat:=by
 unfold zKf at h;split at h
 ·rename_i q;cases h;exact⟨q.1,q.2.1,q.2.2,rfl,by show(b-a).toNat=_;omega⟩
 ·cases h
theorem zMT{P:Program}{t e:TypeId}{ie:TypeInfo}(ht:P.underlying t=some (.slice e))(hi:P.info? e=some ie){sz:Nat}(hs:ie.size=sz)(h1:1<=sz){b off n c:Nat}{y:Int}{r:Nat×Nat}(h:zKf c 0 y=some r):vY P t (.ms b off n c sz) none (some (ai y)) none=some (.ms b off r.2 c sz):=by
 obtain⟨q1,q2,q3,q4,q5⟩:=zKe h;subst hs;have h2:wE c c (some (ai y))=some y.toNat:=by show(if 0<=y/\y<=(c:Int)then some y.toNat else none)=_;rw[if_pos ⟨by omega,q3⟩]
 unfold vY;simp only[ht,hi,amx,show msb n c (some (ai y)) none=c from rfl,h2];rw[if_neg (by simp)];simp only[wE];rw[if_pos ⟨trivial,h1⟩,q5];simp
theorem ldE{P:Program}{α:Type}{c:α->List AV}{sz:Nat}(hc:vG c sz){l:List α}{k:Nat}{x:α}(h:zO l (k:Int)=some x)(q:Bool×Nat){val:AV}(e:pY q (c x++zH c (l.drop (k+1)))=some val):Ob.ok P (.ld (pY q ((zH c l).drop (k*sz))) val):=by show pY q _=some val;rw[zQa hc h,e]
theorem wtE{P:Program}{α:Type}{c:α->List AV}{sz:Nat}(hc:vG c sz){l l2:List α}{k:Nat}{x:α}{cs:List AV}(he:c x=cs)(h:cG l k x=some l2):Ob.ok P (.wt (zH c l) (k*sz) (.agg cs) sz (zH c l2)):=he▸zIb hc h
theorem zAD{P:Program}{α:Type}{c:α->List AV}{sz:Nat}(hc:vG c sz){t e:TypeId}{ie:TypeInfo}{z:Value}(ht:P.underlying t=some (.slice e))(hi:P.info? e=some ie)(hs:ie.size=sz)(hz:ie.zero=some z)(hzs:z.cells.size=sz)(h1:1<=sz){B:Nat}(hb:ie.bytes=B)(hB:1<=B){l m r:List α}(h:yT B l m=some r)(hm:m.length≠0)(z1:Option Nat)(hz1:∀q,z1=some q->q=sz)(src:Option (Nat×Nat×Nat))(hsrc:∀q,src=some q->q.2.2=sz):cE P t t z1 (zH c l) l.length src (zH c m) m.length=some (zH c r,r.length):=by obtain⟨h2,rfl⟩:=rU h;subst hs;subst hb;have h3:(l.length+m.length)*1<=(l.length+m.length)*ie.bytes:=Nat.mul_le_mul_left _ hB;unfold cE;simp only[ht,hi,hz];rw[if_pos ⟨trivial,uA hc.len l,uA hc.len m,h1,hzs,h2,by omega,C4 hc.one m,hm,hz1,hsrc⟩,C5,List.length_append]
theorem zEz{P:Program}{α:Type}{c:α->List AV}{sz:Nat}(hc:vG c sz){t e:TypeId}{ie:TypeInfo}{z:Value}(ht:P.underlying t=some (.slice e))(hi:P.info? e=some ie)(hs:ie.size=sz)(hz:ie.zero=some z)(hzs:z.cells.size=sz)(h1:1<=sz){B:Nat}(hb:ie.bytes=B)(hB:1<=B){m r:List α}(h:yT B ([]:List α) m=some r)(hm:m.length≠0):Ob.ok P (.mk (cE P t t none [] 0 none (zH c m) m.length) (zH c r) r.length):=zAD hc ht hi hs hz hzs h1 hb hB h hm none (λ_ h=>nomatch h) none (λ_ h=>nomatch h)
theorem zMU{P:Program}{α:Type}{c:α->List AV}{sz:Nat}(hc:vG c sz){t e:TypeId}{ie:TypeInfo}{z:Value}(ht:P.underlying t=some (.slice e))(hi:P.info? e=some ie)(hs:ie.size=sz)(hz:ie.zero=some z)(hzs:z.cells.size=sz)(h1:1<=sz){B:Nat}(hb:ie.bytes=B)(hB:1<=B){l m r:List α}(h:yT B l m=some r)(hm:m.length≠0):Ob.ok P (.mk (cE P t t (some sz) (zH c l) l.length none (zH c m) m.length) (zH c r) r.length):=zAD hc ht hi hs hz hzs h1 hb hB h hm _ (λ_ h=>(Option.some.inj h).symm) none (λ_ h=>nomatch h)
theorem zIa{P:Program}{t e:TypeId}{ie:TypeInfo}(ht:P.underlying t=some (.slice e))(hi:P.info? e=some ie){n:Nat}(h:n=0):Ob.ok P (.same t t n):=⟨rfl,h,e,ie,ht,hi⟩
abbrev zC{α:Type}(c:α->List AV)(l:List α)(o:pF):AV:=.sl (zH c l) l.length o
abbrev nB(n:Nat):List nA:=List.replicate n .no
structure OL(P:Program)(os:List nA)(ob:List Ob):Prop where ok:yP P ob
theorem yP.rev{P:Program}:∀(a b:List Ob),yP P a->yP P b->yP P (a.reverseAux b)|[],_,_,k=>k|x::a,b,h,k=>yP.rev a (x::b) h.2 ⟨h.1,k⟩
section
variable{P:Program}{os:List nA}{ob:List Ob}
theorem OL.nil:OL P [] []:=⟨trivial⟩
theorem oB{b b':Bool}(n:Nat)(h:b=b')(k:OL P os ob):OL P (.bit b'::(nB n++os)) (.bit b b'::ob):=⟨⟨h,k.ok⟩⟩
theorem oA{x:Option AV}{a:AV}(n:Nat)(h:x=some a)(k:OL P os ob):OL P (.av a::(nB n++os)) (.av x a::ob):=⟨⟨h,k.ok⟩⟩
theorem oC{f:FuncId}{H0:List yG}{args:List AV}{res:AV}{H1:List yG}{nst:Nat}(n:Nat)(ι:List Nat)(h:CT P f H0 args res H1 nst)(k:OL P os ob):OL P (.call ι H1 nst res none::(nB n++os)) (.call f H0 args res H1 nst::ob):=⟨⟨h,k.ok⟩⟩
theorem oK{b b':Bool}{f:FuncId}{H0:List yG}{args:List AV}{res:AV}{H1:List yG}{nst:Nat}(n:Nat)(ι:List Nat)(hb:b=b')(h:CT P f H0 args res H1 nst)(k:OL P os ob):OL P (.call ι H1 nst res (some b')::(nB n++os)) (.call f H0 args res H1 nst::.bit b b'::ob):=⟨⟨h,hb,k.ok⟩⟩
theorem oF{x:Option AV}{a:AV}(n:Nat)(h:∃a0,x=some a0/\a0.frz=a)(k:OL P os ob):OL P (.fz a::(nB n++os)) (.fz x a::ob):=⟨⟨h,k.ok⟩⟩
theorem oP{t t2:TypeId}{es es2 es':List AV}{n1 n2 n' sz:Nat}{e:Bool}(n:Nat)(h:Ob.ok P (.app t t2 es es2 es' n1 n2 n' sz e))(k:OL P os ob):OL P (.app es' n' sz e::(nB n++os)) (.app t t2 es es2 es' n1 n2 n' sz e::ob):=⟨⟨h,k.ok⟩⟩
theorem oS{cs es:List AV}{l m:Nat}(n:Nat)(h:Ob.ok P (.cells cs es l m))(k:OL P os ob):OL P (.sl es m::(nB n++os)) (.cells cs es l m::ob):=⟨⟨h,k.ok⟩⟩
theorem oL{t:TypeId}{X:yG}{key:AV}{o:Bool}{a:AV}(n:Nat)(h:Ob.ok P (.lk t X key o a))(k:OL P os ob):OL P (.lk a::(nB n++os)) (.lk t X key o a::ob):=⟨⟨h,k.ok⟩⟩
theorem oU{t:TypeId}{X Y:yG}{key v:AV}(n:Nat)(h:Ob.ok P (.mu t X key v Y))(k:OL P os ob):OL P (.mu Y::(nB n++os)) (.mu t X key v Y::ob):=⟨⟨h,k.ok⟩⟩
theorem oM{x:Option (List AV×Nat)}{cs:List AV}{m:Nat}(n:Nat)(h:Ob.ok P (.mk x cs m))(k:OL P os ob):OL P (.mk cs m::(nB n++os)) (.mk x cs m::ob):=⟨⟨h,k.ok⟩⟩
theorem oMc{x:Option (List AV×Nat)}{cs:List AV}{m:Nat}(n:Nat)(h:Ob.ok P (.mk x cs m))(k:OL P os ob):OL P (.mkc cs m::(nB n++os)) (.mk x cs m::ob):=⟨⟨h,k.ok⟩⟩
theorem oG{x:Option AV}{a:AV}(n:Nat)(h:Ob.ok P (.ld x a))(k:OL P os ob):OL P (.ld a::(nB n++os)) (.ld x a::ob):=⟨⟨h,k.ok⟩⟩
theorem oW{cs:List AV}{off:Nat}{v:AV}{sz:Nat}{cs':List AV}(n:Nat)(h:Ob.ok P (.wt cs off v sz cs'))(k:OL P os ob):OL P (.wt cs'::(nB n++os)) (.wt cs off v sz cs'::ob):=⟨⟨h,k.ok⟩⟩
theorem oQ{t t2:TypeId}{m:Nat}(n:Nat)(h:Ob.ok P (.same t t2 m))(k:OL P os ob):OL P (.same::(nB n++os)) (.same t t2 m::ob):=⟨⟨h,k.ok⟩⟩
theorem oD{es:List AV}(h:AV.DataL es)(k:OL P os ob):OL P os (.data es::ob):=⟨⟨h,k.ok⟩⟩
end
theorem spl{α:Type}{b:Bool}{x y:Option α}{r:α}(h:(if b=true then x else y)=some r):(b=true/\x=some r)\/(b=false/\y=some r):=by
 cases b;·exact .inr ⟨rfl,by simpa using h⟩
 ·exact .inl ⟨rfl,by simpa using h⟩
theorem spT{α:Type}{b:Bool}{x:Option α}{r:α}(h:(if b=true then x else none)=some r):b=true/\x=some r:=by
 rcases spl h with h|⟨_,h⟩;·exact h
 ·cases h
theorem nn{α:Type}{r:α}{p:Prop}(h:(none:Option α)=some r):p:=nomatch h
theorem zUO{α:Type}{b:Bool}{x y:α}(h:b=true):(if b=true then x else y)=x:=if_pos h
theorem zQA{α:Type}{b:Bool}{x y:α}(h:b=false):(if b=true then x else y)=y:=by subst h;rfl
theorem sj{α:Type}{x y:α}(h:some x=some y):x=y:=Option.some.inj h
def sp(j:Nat->Value):Nat->Nat->List (Nat×AV)->List AV|0,_,_=>[]|n+1,i,l=>match l with|[]=>.val (j i)::sp j n (i+1) []|(m,a)::l'=>bif Nat.beq m i then a::sp j n (i+1) l' else .val (j i)::sp j n (i+1) l
section
variable{P:Program}{pr:FuncId->List AV->yN->Option LA}(hp:tE P pr)(hm:P.follows .mixedOrders=true){na:Nb}{fn:Func}{f:FuncId}
include hp hm
theorem OL.toHead{H0 H1:List yG}{args:List AV}{res:AV}{nst:Nat}(q:P.funcs[f]?=some fn/\fn.body.isNone=false)(m:Nat)(rs:List (Option Nat×Nat×Nat))(keep ks live:List Nat){os:List nA}{ob:List Ob}(k:OL P os ob){c:Code}{fs':List Fr}{E:(Nat->Value)->List AV}{S:yN}(hk:∀j,Dl P H0.length c (E j) S (wC P H0.length (jK P H0.length fn res H1 nst) fs'))(h:∀j,C2 P pr H0.length 3000 (.run (sM fn)) [] (args++List.replicate (fn.ntmps-args.length) (.val undef)) (N5 H0) ((nB m++os).reverseAux []) rs keep ks live j=some (c,fs',E j,S,ob.reverseAux [])):uE P f H0 args res H1 nst:=uE.toHead hp hm q.1 q.2 3000 _ rs keep ks live h (yP.rev _ _ k.ok trivial) hk
theorem OL.toFin{H0 H1:List yG}{args:List AV}{res:AV}{nst:Nat}(q:P.funcs[f]?=some fn/\fn.body.isNone=false)(m:Nat)(rs:List (Option Nat×Nat×Nat))(keep ks:List Nat)(own:Bool){os:List nA}{ob:List Ob}(k:OL P os ob)(h:Q4 P pr H0.length fn 3000 (.run (sM fn)) [] (args++List.replicate (fn.ntmps-args.length) (.val undef)) (N5 H0) ((nB m++os).reverseAux []) rs keep ks own=some (res,H1,ob.reverseAux []))(hn:nst<=ks.length):uE P f H0 args res H1 nst:=uE.toFin hp hm q.1 q.2 3000 _ rs keep ks own h (yP.rev _ _ k.ok trivial) hn
theorem OL.lHead{Q:AX->List AV->yN->Prop}{c c':Code}{fs fs':List Fr}{env:List AV}{s S:yN}(m:Nat)(rs:List (Option Nat×Nat×Nat))(keep ks live:List Nat){os:List nA}{ob:List Ob}(k:OL P os ob){E:(Nat->Value)->List AV}(hk:∀j,Dl P na c' (E j) S (wC P na Q fs'))(h:∀j,C2 P pr na.n 3000 (.run c) (.loop c::fs) env s ((nB m++os).reverseAux []) rs keep ks live j=some (c',fs',E j,S,ob.reverseAux [])):Dl P na c env s (wC P na Q fs):=Dl.toHead hp hm 3000 _ rs keep ks live h (yP.rev _ _ k.ok trivial) hk
theorem OL.lFin{c:Code}{fs:List Fr}{env:List AV}{s:yN}{res:AV}{H1:List yG}{nst:Nat}(m:Nat)(rs:List (Option Nat×Nat×Nat))(keep ks:List Nat)(own:Bool){os:List nA}{ob:List Ob}(k:OL P os ob)(h:Q4 P pr na.n fn 3000 (.run c) (.loop c::fs) env s ((nB m++os).reverseAux []) rs keep ks own=some (res,H1,ob.reverseAux []))(hn:nst<=ks.length):Dl P na c env s (wC P na (jK P na fn res H1 nst) fs):=Dl.toFin hp hm 3000 _ rs keep ks own h (yP.rev _ _ k.ok trivial) hn
end
def gbs(s:ByteArray):List U8:=s.data.toList.map λb=>(b.toNat:Int)
theorem jP(s:ByteArray):(gbs s).length=s.size:=by unfold gbs;rw[List.length_map,Array.length_toList];rfl
theorem zGG(s:ByteArray):vR s=zH aC (gbs s):=by unfold vR gbs;generalize s.data.toList=l;induction l with|nil=>rfl|cons b l ih=>unfold zH at ih⊢;rw[List.map_cons,List.map_cons,List.flatMap_cons,ih];rfl
def zQB(a b:Int):Option Int:=if b<0 then none else some (a.fdiv (2^(min b.toNat IntKind.i64.bits)))
theorem zUP{P:Program}{t:TypeId}{a b r:Int}(h:zQB a b=some r):bT P .shr t (ai a) (ai b)=some (ai r):=by
 unfold zQB at h;split at h;·cases h
 ·rename_i hc;cases h;unfold bT B4 zQs;simp only[ai,if_neg hc,if_true]
def zMV(a b:ByteArray):Option ByteArray:=if a.size+b.size<=4294967296 then some (a++b)else none
theorem zUQ{P:Program}{t:TypeId}{a b r:ByteArray}(h:zMV a b=some r):bT P .add t (at' a) (at' b)=some (at' r):=by
 unfold zMV at h;split at h
 ·rename_i hc;cases h;unfold bT B4 zQs;simp only[at',if_pos hc]
 ·cases h
section
variable{P:Program}{t t2 e:TypeId}{ie:TypeInfo}{z:Value}
theorem zEy(ht:P.underlying t=some (.slice e))(hu:P.underlying t2=some .string)(hi:P.info? e=some ie)(hs:ie.size=1)(hz:ie.zero=some z)(hzs:z.cells.size=1)(hb:ie.bytes=1){l r:List U8}{bs:ByteArray}(h:yT 1 l (gbs bs)=some r){o:pF}{s:yN}{ev:Operand->AV}:qM P t t2 ev (.sl (zH aC l) l.length o) bs s=bif Nat.beq bs.size 0 then some {ev:=ev,v:=.sl (zH aC l) l.length o}else match o with|.full=>some {ev:=ev,ns:=s.ns,new:=1,v:=.sl (zH aC r) r.length (.st s.ns 1)}|.nl=>some {ev:=ev,ns:=s.ns,new:=1,v:=.sl (zH aC r) r.length (.st s.ns 1)}|.st k sz'=>bif s.own.any (Nat.beq k)&&Nat.beq sz' 1 then some {ev:=ev,use:=[k],ns:=s.ns,new:=1,v:=.sl (zH aC r) r.length (.st s.ns 1)}else none|_=>none:=by
 obtain⟨h2,rfl⟩:=rU h;rw[jP]at h2;unfold qM;simp only[ht,hu,hi,hz,hs,hb];have hcond:(Nat.beq (zH aC l).length (l.length*1)&&Nat.beq 1 1&&Nat.beq z.cells.size 1&&Nat.ble ((l.length+bs.size)*1) 140737488355328&&Nat.ble (l.length+bs.size) 4611686018427387904)=true:=by simp only[Bool.and_eq_true];exact⟨⟨⟨⟨by rw[uA W5.len];simp,rfl⟩,by rw[hzs];rfl⟩,by simpa using h2⟩,by simp;omega⟩
 rw[hcond];simp only[cond_true,C5,List.length_append,jP,zGG];cases o<;>rfl
theorem zMW(ht:P.underlying t=some (.slice e))(hu:P.underlying t2=some .string)(hi:P.info? e=some ie)(hs:ie.size=1)(hz:ie.zero=some z)(hzs:z.cells.size=1)(hb:ie.bytes=1){l r:List U8}{bs:ByteArray}(h:yT 1 l (gbs bs)=some r)(hm:bs.size≠0):Ob.ok P (.aps t t2 (zH aC l) bs (zH aC r) l.length r.length 1 false):=by intro ev s o;rw[zEy ht hu hi hs hz hzs hb h];cases hn:Nat.beq bs.size 0 with|true=>exact absurd (Nat.eq_of_beq_eq_true hn) hm|false=>cases o<;>rfl
theorem zMX(ht:P.underlying t=some (.slice e))(hu:P.underlying t2=some .string)(hi:P.info? e=some ie)(hs:ie.size=1)(hz:ie.zero=some z)(hzs:z.cells.size=1)(hb:ie.bytes=1){l r:List U8}{bs:ByteArray}(h:yT 1 l (gbs bs)=some r)(hm:bs.size=0):Ob.ok P (.aps t t2 (zH aC l) bs (zH aC r) l.length r.length 1 true):=by intro ev s o;rw[zEy ht hu hi hs hz hzs hb h];obtain⟨_,rfl⟩:=rU h;have:gbs bs=[]:=List.length_eq_zero_iff.1 (by rw[jP,hm]);rw[hm,this,List.append_nil];rfl
end
section
variable{P:Program}{os:List nA}{ob:List Ob}
theorem zQC{s:ByteArray}{p:Nat}(h:p<s.size):Ob.ok P (.nx (.obj (.stringIter s p)) (.tup [ab true,ai (p:Int),.val (.int .i32 ((Utf8.decode s p).1:Nat))]) (some (.obj (.stringIter s (p+(Utf8.decode s p).2))))):=by intro ev i st hl;unfold N2;have hb:Nat.blt p s.size=true:=Nat.ble_eq_true_of_le h;simp only[hl,hb,cond_true];rfl
theorem zQD{s:ByteArray}{p:Nat}(h:¬p<s.size):Ob.ok P (.nx (.obj (.stringIter s p)) (.tup [ab false]) none):=by
 intro ev i st hl;unfold N2;have hb:Nat.blt p s.size=false:=by cases hc:Nat.blt p s.size with|false=>rfl|true=>exact absurd (Nat.le_of_ble_eq_true hc) h
 simp only[hl,hb,cond_false];rfl
theorem oMz{x:Option (List AV×Nat)}{cs:List AV}{m:Nat}(n:Nat)(h:Ob.ok P (.mk x cs m))(k:OL P os ob):OL P (.mz cs m::(nB n++os)) (.mk x cs m::ob):=⟨⟨h,k.ok⟩⟩
theorem oCx{f:FuncId}{H0:List yG}{args:List AV}{res:AV}{H1:List yG}{nst:Nat}(n:Nat)(ι:List Nat)(h:CT P f H0 args res H1 nst)(k:OL P os ob):OL P (.callx ι H1 nst res none::(nB n++os)) (.call f H0 args res H1 nst::ob):=⟨⟨h,k.ok⟩⟩
theorem b9(n:Nat)(k:OL P os ob):OL P (.cl::(nB n++os)) ob:=⟨k.ok⟩
theorem oCv{x:Option ByteArray}{bs:ByteArray}(n:Nat)(h:Ob.ok P (.str x bs))(k:OL P os ob):OL P (.cv bs::(nB n++os)) (.str x bs::ob):=⟨⟨h,k.ok⟩⟩
theorem X6:∀l:List U8,bF (zH aC l)=some l|[]=>rfl|x::l=>by show bF (.val (.int .u8 x)::zH aC l)=_;rw[bF,X6 l];rfl
theorem zMY{t d e:TypeId}(hs:P.underlying t=some (.slice e))(hd:P.underlying d=some .string)(he:P.underlying e=some (.int .u8))(l:List U8):Ob.ok P (.str (mT P t d (zH aC l) l.length) (qK l)):=by
 show mT P t d (zH aC l) l.length=some (qK l);have h1:(zH aC l).length=l.length:=by rw[uA W5.len,Nat.mul_one]
 unfold mT;simp only[hs,hd,he];rw[List.take_of_length_le (by omega),X6];simp
def gtx(n:Nat)(l:List U8):Option ByteArray:=if l.length=n then some (qK l)else none
theorem zMZ{t d e:TypeId}(hs:P.underlying t=some (.slice e))(hd:P.underlying d=some .string)(he:P.underlying e=some (.int .u8)){l:List U8}{n:Nat}{bs:ByteArray}(h:gtx n l=some bs):Ob.ok P (.str (mT P t d (zH aC l) n) bs):=by
 unfold gtx at h;split at h
 ·rename_i hn;subst hn;cases h;exact zMY hs hd he l
 ·cases h
theorem zXh{t t2:TypeId}{k:IntKind}(h2:P.underlying t2=some (.int k)){n:Int}(hp:n>0){cs:List AV}{m:Nat}(h:Ob.ok P (.mk (qP P t (ai n) (ai n)) cs m)):Ob.ok P (.mk (V8 P t t2 (ai n)) cs m):=by show V8 P t t2 (ai n)=some (cs,m);unfold V8;rw[h2];simp only;rw[if_pos (by omega)];exact h
theorem oX{X:yG}{v:AV}{Y:Option yG}(n:Nat)(h:Ob.ok P (.nx X v Y))(k:OL P os ob):OL P (.nx v Y::(nB n++os)) (.nx X v Y::ob):=⟨⟨h,k.ok⟩⟩
theorem oPs{t t2:TypeId}{es es':List AV}{bs:ByteArray}{n1 n' sz:Nat}{e:Bool}(n:Nat)(h:Ob.ok P (.aps t t2 es bs es' n1 n' sz e))(k:OL P os ob):OL P (.app es' n' sz e::(nB n++os)) (.aps t t2 es bs es' n1 n' sz e::ob):=⟨⟨h,k.ok⟩⟩
end
abbrev zXg:=zX
def entZ(e:zX):List AV:=[ai e.kind,at' e.name,ai e.type.k,ai e.type.n,.sl (zH zA e.type.sub) e.type.sub.length .no,ai e.body.k,ai e.body.n,.sl (zH zA e.body.sub) e.body.sub.length .no,ai e.fam,ai e.place,ai e.pars,ai e.inds,ai e.level,.sl (zH zQ e.cons) e.cons.length .z,.sl (zH zQ e.fields) e.fields.length .z]
theorem zIB:vG entZ 15:=⟨λ_=>rfl,λx=>⟨trivial,trivial,trivial,trivial,⟨trivial,dT _⟩,trivial,trivial,⟨trivial,dT _⟩,trivial,trivial,trivial,trivial,trivial,⟨trivial,dI _⟩,⟨trivial,dI _⟩,trivial⟩,λ_=>rfl⟩
theorem CT.wk{P:Program}{f:FuncId}{H0:List yG}{args:List AV}{res res':AV}{H1:List yG}{nst:Nat}(h:CT P f H0 args res H1 nst)(k:Wk res res')(hf:res'.fine (λi=>i<H1.length)):CT P f H0 args res' H1 nst:=by refine⟨λG0 W cargs hB hR hv=>(h.tri G0 W cargs hB hR hv).mono ?_,h.args,h.H0,hf,h.H1⟩;rintro e W'⟨u,G',s',h1,h2,h3,h4,h5⟩;exact⟨u,G',s',h1,h2,h3,k _ _ _ h4,h5⟩
theorem CT.zfull{P:Program}{f:FuncId}{args:List AV}(h:CT P f [] args (.sl [] 0 .full) [] 0):CT P f [] args (.sl [] 0 .z) [] 0:=h.wk (by
 intro G w u h;simp only[V,pX]at h⊢;obtain⟨cap,hc,⟨h1,h2,h3,h4,h5⟩|⟨b,off,h1,h2,h3⟩⟩:=h;·exact⟨cap,hc,.inl ⟨h1,h2,h3,h4,trivial⟩⟩
 ·exact⟨cap,hc,.inr ⟨b,off,h1,h2,λ_=>h3⟩⟩) trivial
theorem CT.zno{P:Program}{f:FuncId}{args es:List AV}{n:Nat}(hn:n≠0)(hd:AV.DataL es)(h:CT P f [] args (.sl es n .no) [] 0):CT P f [] args (.sl es n .z) [] 0:=h.wk (by
 intro G w u h;simp only[V,pX]at h⊢;obtain⟨cap,hc,⟨h1,h2,h3,h4,h5⟩|⟨b,off,h1,h2,h3⟩⟩:=h;·exact(hn h2).elim
 ·exact⟨cap,hc,.inr ⟨b,off,h1,h2,λe=>(hn e).elim⟩⟩) hd
theorem V.unown{G:Gh}{w:World}{es:List AV}{n:Nat}{o:pF}{u:Value}(h:V G w (.sl es n o) u):V G w (.sl es n .no) u:=V.frz _ _ h
theorem VC.entZ{G:Gh}{w:World}:∀(l:List zX)(b off:Nat),VC G w (zH Ab.entZ l) b off->VC G w (zH zP l) b off|[],_,_,_=>by simp[zH,VC]|e::l,b,off,h=>by have h':VC G w (Ab.entZ e++zH Ab.entZ l) b off:=h;show VC G w (zP e++zH zP l) b off;simp only[Ab.entZ,zP,List.cons_append,List.nil_append,VC]at h'⊢;obtain⟨l0,c0,l1,c1,l2,c2,l3,c3,l4,c4,l5,c5,l6,c6,l7,c7,l8,c8,l9,c9,l10,c10,l11,c11,l12,c12,l13,⟨v13,e13,h13⟩,l14,⟨v14,e14,h14⟩,hr⟩:=h';exact⟨l0,c0,l1,c1,l2,c2,l3,c3,l4,c4,l5,c5,l6,c6,l7,c7,l8,c8,l9,c9,l10,c10,l11,c11,l12,c12,l13,⟨v13,e13,V.unown h13⟩,l14,⟨v14,e14,V.unown h14⟩,VC.entZ l _ _ hr⟩
theorem wkr(a:AV):Wk a a:=λ_ _ _ h=>h
theorem wkE(l:List zX)(o:pF):Wk (.sl (zH entZ l) l.length o) (.sl (zH zP l) l.length .no):=by
 intro G w u h;simp only[V]at h⊢;obtain⟨cap,hc,hh⟩:=h;refine⟨cap,hc,?_⟩;rcases hh with⟨h1,h2,h3,h4,h5⟩|⟨b,off,hu,hcells,ho⟩
 ·have:l=[]:=List.length_eq_zero_iff.1 h2;subst this;exact .inl ⟨rfl,rfl,h3,h4,trivial⟩
 ·exact .inr ⟨b,off,hu,VC.entZ l b off hcells,trivial⟩
section
variable{P:Program}{os:List nA}{ob:List Ob}
theorem oWk{a0 a:AV}(n:Nat)(h:Wk a0 a)(k:OL P os ob):OL P (.wk a::(nB n++os)) (.wk a0 a::ob):=⟨⟨h,k.ok⟩⟩
end
abbrev wS:Nat->Prop:=λ_=>True
mutual def AV.ptB(keep:List Nat):AV->Bool|.val _=>true|.agg cs=>AV.ptBL keep cs|.tup cs=>AV.ptBL keep cs|.sl _ _ _=>true|.ip _=>true|.mp i _=>sR keep i|.ms i _ _ _ _=>sR keep i|.obj i=>sR keep i|.clo _ fs cs=>AV.ptBL keep fs&&AV.ptBL keep cs def AV.ptBL(keep:List Nat):List AV->Bool|[]=>true|a::l=>AV.ptB keep a&&AV.ptBL keep l end
mutual theorem AV.pt_fine{keep:List Nat}:∀a:AV,a.ptB keep=true->a.fine wS->a.fine (λi=>i∈keep)|.val _,_,_=>trivial|.agg cs,h,k=>AV.pt_fineL cs h k|.tup cs,h,k=>AV.pt_fineL cs h k|.sl _ _ _,_,k=>k|.ip _,_,k=>k|.mp _ _,h,_=>vB.1 h|.ms _ _ _ _ _,h,_=>vB.1 h|.obj _,h,_=>vB.1 h|.clo _ fs cs,h,k=>by simp only[AV.ptB,Bool.and_eq_true]at h;exact⟨AV.pt_fineL fs h.1 k.1,AV.pt_fineL cs h.2 k.2⟩theorem AV.pt_fineL{keep:List Nat}:∀l:List AV,AV.ptBL keep l=true->AV.fineL wS l->AV.fineL (λi=>i∈keep) l|[],_,_=>trivial|a::l,h,k=>by simp only[AV.ptBL,Bool.and_eq_true]at h;exact⟨AV.pt_fine a h.1 k.1,AV.pt_fineL l h.2 k.2⟩end
mutual theorem AV.fine_any{p:Nat->Prop}:∀a:AV,a.fine p->a.fine wS|.val _,_=>trivial|.agg cs,h=>AV.fine_anyL cs h|.tup cs,h=>AV.fine_anyL cs h|.sl _ _ _,h=>h|.ip _,h=>h|.mp _ _,_=>trivial|.ms _ _ _ _ _,_=>trivial|.obj _,_=>trivial|.clo _ fs cs,h=>⟨AV.fine_anyL fs h.1,AV.fine_anyL cs h.2⟩theorem AV.fine_anyL{p:Nat->Prop}:∀l:List AV,AV.fineL p l->AV.fineL wS l|[],_=>trivial|a::l,h=>⟨AV.fine_any a h.1,AV.fine_anyL l h.2⟩end
mutual theorem AV.unren_any{r:Nat->Nat}{f:Nat->Option Nat}:∀a:AV,(a.ren r f).fine wS->a.fine wS|.val _,_=>trivial|.agg cs,h=>AV.unren_anyL cs h|.tup cs,h=>AV.unren_anyL cs h|.sl _ _ _,h=>h|.ip _,h=>h|.mp _ _,_=>trivial|.ms _ _ _ _ _,_=>trivial|.obj _,_=>trivial|.clo _ fs cs,h=>⟨AV.unren_anyL fs h.1,AV.unren_anyL cs h.2⟩theorem AV.unren_anyL{r:Nat->Nat}{f:Nat->Option Nat}:∀l:List AV,AV.fineL wS (AV.renL r f l)->AV.fineL wS l|[],_=>trivial|a::l,h=>⟨AV.unren_any a h.1,AV.unren_anyL l h.2⟩end
mutual theorem AV.unfrz_any:∀a:AV,a.frz.fine wS->a.fine wS|.val _,_=>trivial|.agg cs,h=>AV.unfrz_anyL cs h|.tup cs,h=>AV.unfrz_anyL cs h|.sl _ _ _,h=>h|.ip _,h=>h|.mp _ _,_=>trivial|.ms _ _ _ _ _,_=>trivial|.obj _,_=>trivial|.clo _ fs cs,h=>⟨AV.unfrz_anyL fs h.1,AV.unfrz_anyL cs h.2⟩theorem AV.unfrz_anyL:∀l:List AV,AV.fineL wS (AV.frzL l)->AV.fineL wS l|[],_=>trivial|a::l,h=>⟨AV.unfrz_any a h.1,AV.unfrz_anyL l h.2⟩end
theorem X7(a:AV)(h:(frz1 a).fine wS):a.fine wS:=by
 unfold frz1 at h;split at h;·exact h
 ·exact AV.unfrz_any _ h
theorem O2:∀l:List AV,AV.fineL wS (l.map frz1)->AV.fineL wS l|[],_=>trivial|a::l,h=>⟨X7 a h.1,O2 l h.2⟩
theorem aH(a:AV)(h:(frzT a).fine wS):a.fine wS:=by
 unfold frzT at h;split at h;·exact O2 _ h
 ·exact X7 _ h
theorem zGH{keep:List Nat}(a:AV)(h:(frzN keep a).fine wS):a.fine wS:=by
 unfold frzN at h;split at h;·rename_i es n o;cases hb:o.nlB with|false=>rw[hb]at h;exact aH _ h|true=>
  rw[hb]at h;simp only[cond_true]at h;split at h;·trivial
  ·exact aH _ h
 ·exact aH _ h
theorem zGI(a:AV)(h:a.frzK.fine wS):a.fine wS:=by
 unfold AV.frzK at h;split at h;·rename_i es n o;cases hb:o.nlB with|false=>rw[hb]at h;exact h|true=>
  rw[hb]at h;simp only[cond_true]at h;split at h;·trivial
  ·exact h
 ·exact AV.unfrz_any _ h
theorem O3:∀l:List AV,AV.fineL wS (l.map AV.frzK)->AV.fineL wS l|[],_=>trivial|a::l,h=>⟨zGI a h.1,O3 l h.2⟩
theorem yG.fine_any{p:Nat->Prop}{X:yG}(h:X.fine p):X.fine wS:=by cases X with|cells cs=>exact AV.fine_anyL cs h|obj o=>trivial|row cs=>exact h|dead=>trivial
theorem yG.unfz_any{k:Bool}{X:yG}(h:(X.fzB k).fine wS):X.fine wS:=by cases X with
 |cells cs=>cases k with|true=>exact O3 cs h|false=>exact AV.unfrz_anyL cs h
 |obj o=>trivial|row cs=>exact h|dead=>trivial
theorem yG.unren_any{r:Nat->Nat}{f:Nat->Option Nat}{X:yG}(h:(X.ren r f).fine wS):X.fine wS:=by cases X with|cells cs=>exact AV.unren_anyL cs h|obj o=>trivial|row cs=>exact h|dead=>trivial
def yG.ptB(keep:List Nat):yG->Bool|.cells cs=>AV.ptBL keep cs|_=>true
theorem yG.pt_fine{keep:List Nat}{X:yG}(h:X.ptB keep=true)(k:X.fine wS):X.fine (λi=>i∈keep):=by cases X with|cells cs=>exact AV.pt_fineL cs h k|obj o=>trivial|row cs=>exact k|dead=>trivial
def O4(keep:List Nat)(s:yN):List Nat->Bool|[]=>true|i::l=>((look s.H i).getD (.cells [])).ptB keep&&O4 keep s l
theorem X8{keep:List Nat}{s:yN}:∀l:List Nat,O4 keep s l=true->(∀i∈l,((look s.H i).getD (.cells [])).fine wS)->sW keep s l|[],_,_=>trivial|i::l,h,k=>by simp only[O4,Bool.and_eq_true]at h;exact⟨yG.pt_fine h.1 (k i (List.mem_cons_self ..)),X8 l h.2 λj hj=>k j (List.mem_cons_of_mem _ hj)⟩
def zNz(keep live:List Nat):List AV->Nat->Bool|[],_=>true|a::l,t=>(bif sR live t then a.ptB keep else true)&&zNz keep live l (t+1)
theorem zIC{keep ks live:List Nat}{j:Nat->Value}:∀(env:List AV)(t:Nat),zNz keep live env t=true->AV.fineL wS (reEnv keep ks live j env t)->jE keep live env t|[],_,_,_=>trivial|a::l,t,h,k=>by simp only[zNz,Bool.and_eq_true]at h;simp only[reEnv,AV.fineL]at k;refine⟨?_,zIC l (t+1) h.2 k.2⟩;cases hm:sR live t with|false=>trivial|true=>have h1:=h.1;have k1:=k.1;rw[hm]at h1 k1;exact AV.pt_fine a h1 (AV.unren_any a k1)
theorem X9{H:List (Nat×yG)}{keep ks:List Nat}:∀(l:List Nat)(j:Nat),(∀p∈qO H keep ks l j,p.2.fine wS)->∀i∈l,((look H i).getD (.cells [])).fine wS
 |[],_,_,_,h=>nomatch h|i::l,j,h,k,hk=>by
  rcases List.mem_cons.1 hk with rfl|hk;·exact yG.unren_any (h _ (List.mem_cons_self ..))
  ·exact X9 l (j+1) (λp hp=>h p (List.mem_cons_of_mem _ hp)) k hk
theorem Y0{H:List (Nat×yG)}{keep ks:List Nat}:∀(l:List Nat)(j m:Nat),m=l.length->(∀t,t<m->(look (qO H keep ks keep 0) (j+t))=(l[t]?).map λi=>((look H i).getD (.cells [])).ren (vN keep) (place ks))->(∀X∈tI (qO H keep ks keep 0) j m,X.fine wS)->∀i∈l,((look H i).getD (.cells [])).fine wS
 |[],_,_,_,_,_,_,h=>nomatch h|i::l,j,m,hm,hl,h,k,hk=>by
  subst hm;simp only[List.length_cons,tI]at h;rcases List.mem_cons.1 hk with rfl|hk
  ·have h0:=h _ (List.mem_cons_self ..);have:=hl 0 (by simp);simp only[Nat.add_zero,List.getElem?_cons_zero,Option.map_some]at this;rw[this]at h0;exact yG.unren_any h0
  ·refine Y0 l (j+1) l.length rfl (λt ht=>?_) (λX hX=>h X (List.mem_cons_of_mem _ hX)) k hk;have:=hl (t+1) (by simpa using ht);rw[show j+1+t=j+(t+1)by omega,this];simp
def bK(P:Program)(pr:FuncId->List AV->yN->Option LA)(na:Nat)(fn:Func)(n:Nat)(m:Md)(fs:List Fr)(env:List AV)(s:yN)(os:List nA)(rs:List (Option Nat×Nat×Nat))(keep ks:List Nat)(own:Bool):Option (AV×List yG×List Ob):=match qQ P pr n m fs env s os with
 |some (.fin x,env1,s1,[],ob)=>match x with|.exit _=>none|_=>match restamps rs env1 s1 with|none=>none|some (env',s')=>match V5 P (look s'.H) env' fn.results.toList with
  |some r=>bif reB na keep ks s'&&(O4 keep s' keep&&r.ptB keep)then some (bif own then frzN keep (r.ren (vN keep) (place ks))else(r.ren (vN keep) (place ks)).frz,(tI (mM keep ks s').H 0 keep.length).map (yG.fzB own),ob)else none|none=>none
 |_=>none
theorem zEx{P:Program}{pr:FuncId->List AV->yN->Option LA}(hp:tE P pr)(hm:P.follows .mixedOrders=true){na:Nb}{fn:Func}{n:Nat}{m:Md}{fs:List Fr}{env:List AV}{s:yN}{os:List nA}{rs:List (Option Nat×Nat×Nat)}{keep ks:List Nat}{own:Bool}{res:AV}{H1:List yG}{nst:Nat}{ob:List Ob}(h:bK P pr na.n fn n m fs env s os rs keep ks own=some (res,H1,ob))(hob:yP P ob)(hn:nst<=ks.length)(fr:res.fine wS)(fb:∀X∈H1,X.fine wS):W3 P na (jK P na fn res H1 nst) fs env s m:=by
 unfold bK at h;split at h
 ·rename_i x env1 s1 ob' hr;have key:(x=.normal\/x=.ret)/\∃env' s',restamps rs env1 s1=some (env',s')/\∃r,V5 P (look s'.H) env' fn.results.toList=some r/\(bif reB na.n keep ks s'&&(O4 keep s' keep&&r.ptB keep)then some (bif own then frzN keep (r.ren (vN keep) (place ks))else(r.ren (vN keep) (place ks)).frz,(tI (mM keep ks s').H 0 keep.length).map (yG.fzB own),ob')else none)=some (res,H1,ob):=by cases x with
   |exit i=>cases h|normal=>
    simp only at h;split at h;·cases h
    rename_i env' s' hrs;split at h;·rename_i r hr;exact⟨.inl rfl,env',s',hrs,r,hr,h⟩
    ·cases h|ret=>
    simp only at h;split at h;·cases h
    rename_i env' s' hrs;split at h;·rename_i r hr;exact⟨.inr rfl,env',s',hrs,r,hr,h⟩
    ·cases h
  obtain⟨hx,env',s',hrs,r,hres,h⟩:=key;cases hb:reB na.n keep ks s'&&(O4 keep s' keep&&r.ptB keep)with|false=>rw[hb]at h;cases h|true=>
   rw[hb]at h;simp only[cond_true,Option.some.injEq,Prod.mk.injEq]at h;obtain⟨e1,rfl,rfl⟩:=h;simp only[Bool.and_eq_true]at hb;obtain⟨b1,b2,b3⟩:=hb;have hfr:r.fine wS:=by subst e1;cases own with|true=>exact AV.unren_any _ (zGH _ fr)|false=>exact AV.unren_any _ (AV.unfrz_any _ fr)
   have hfb:∀i∈keep,((look s'.H i).getD (.cells [])).fine wS:=by refine Y0 (keep:=keep) (ks:=ks) keep 0 keep.length rfl (λt ht=>?_) λX hX=>yG.unfz_any (fb _ (List.mem_map_of_mem hX));rw[mS];simp
   refine nH hp hm _ _ _ _ _ _ _ _ _ _ _ hr hob ⟨hx,rs,env',s',hrs,r,keep,ks,hres,b1,X8 _ b2 hfb,AV.pt_fine _ b3 hfr,λG w u hu=>?_,⟨own,rfl⟩,hn⟩;subst e1;cases own with|true=>exact V.frzN hu|false=>exact V.frz _ _ hu
 ·cases h
def aI(P:Program)(pr:FuncId->List AV->yN->Option LA)(na n:Nat)(m:Md)(fs:List Fr)(env:List AV)(s:yN)(os:List nA)(rs:List (Option Nat×Nat×Nat))(keep ks live:List Nat)(j:Nat->Value):Option (Code×List Fr×List AV×yN×List Ob):=match qQ P pr n m fs env s os with
 |some (.head c fs',env1,s1,[],ob)=>match restamps rs env1 s1 with
  |none=>none|some (env',s')=>bif reB na keep ks s'&&(O4 keep s' keep&&zNz keep live env' 0)then some (c,fs',reEnv keep ks live j env' 0,mM keep ks s',ob)else none
 |_=>none
theorem zAE{P:Program}{pr:FuncId->List AV->yN->Option LA}(hp:tE P pr)(hm:P.follows .mixedOrders=true){na:Nb}{Q:AX->List AV->yN->Prop}{n:Nat}{m:Md}{fs fs':List Fr}{env:List AV}{E:(Nat->Value)->List AV}{s S:yN}{os:List nA}{rs:List (Option Nat×Nat×Nat)}{keep ks live:List Nat}{c:Code}{ob:List Ob}(h:∀j,aI P pr na.n n m fs env s os rs keep ks live j=some (c,fs',E j,S,ob))(hob:yP P ob)(fe:∀j,AV.fineL wS (E j))(fb:∀p∈S.H,p.2.fine wS)(hk:∀j,Dl P na c (E j) S (wC P na Q fs')):W3 P na Q fs env s m:=by
 have h0:=h λ_=>undef;unfold aI at h0;split at h0
 ·rename_i c' fs1 env1 s1 ob' hr;split at h0;·cases h0
  rename_i env' s' hrs;cases hb:reB na.n keep ks s'&&(O4 keep s' keep&&zNz keep live env' 0)with|false=>rw[hb]at h0;cases h0|true=>rw[hb]at h0;simp only[cond_true,Option.some.injEq,Prod.mk.injEq]at h0;obtain⟨rfl,rfl,e0,rfl,rfl⟩:=h0;have hb':=hb;simp only[Bool.and_eq_true]at hb';obtain⟨b1,b2,b3⟩:=hb';refine nH hp hm _ _ _ _ _ _ _ _ _ _ _ hr hob ?_;refine Dl.restamps hrs ?_;refine Dl.re keep ks live b1 (X8 _ b2 (X9 keep 0 fb)) (zIC _ _ b3 (by rw[e0];exact fe _)) λj=>?_;have hj:=h j;unfold aI at hj;rw[hr]at hj;simp only[hrs,hb,cond_true,Option.some.injEq,Prod.mk.injEq]at hj;rw[hj.2.2.1];exact hk j
 ·cases h0
theorem D4(j:Nat->Value):∀(n i:Nat)(l:List (Nat×AV)),(∀p∈l,p.2.fine wS)->AV.fineL wS (sp j n i l)|0,_,_,_=>trivial|n+1,i,[],_=>⟨trivial,D4 j n (i+1) [] (λ_ h=>nomatch h)⟩|n+1,i,(m,a)::l,h=>by rw[sp];cases Nat.beq m i with|true=>exact⟨h _ (List.mem_cons_self ..),D4 j n (i+1) l λp hp=>h p (List.mem_cons_of_mem _ hp)⟩|false=>exact⟨trivial,D4 j n (i+1) _ h⟩
class Cd{α:Type}(c:α->List AV):Prop where data:∀x,AV.DataL (c x)
theorem Cd.d{α:Type}{c:α->List AV}[Cd c](l:List α):AV.DataL (zH c l):=vW Cd.data l
instance:Cd zA:=⟨tV.data⟩
instance:Cd Q5:=⟨λt=>by rw[<-xH];exact tV.data t⟩
instance:Cd zQ:=⟨lQ.data⟩
instance:Cd aC:=⟨W5.data⟩
instance:Cd xJ:=⟨J5.data⟩
instance:Cd zP:=⟨aD.data⟩
instance:Cd iS:=⟨zCx.data⟩
instance:Cd qS:=⟨zCw.data⟩
def Rn(P:Program){ρ:Type}(T:ρ->Prop)(os:List nA)(ob:List Ob)(o:Option ρ):Prop:=∀r,o=some r->OL P os ob->T r
theorem iT{α β:Type}{p:α⊕β->Prop}(h:∀a,p (.inl a))(k:∀b,p (.inr b)):∀x,p x|.inl a=>h a|.inr b=>k b
def Cs(P:Program){ρ:Type}(o:Option ρ)(f:FuncId)(H0:List yG)(args:List AV)(res:ρ->AV)(H1:ρ->List yG)(nst:Nat):Prop:=∀r,o=some r->CT P f H0 args (res r) (H1 r) nst
def Ls(P:Program){ρ:Type}(o:Option ρ)(na:Nb)(fn:Func)(c:Code)(E:(Nat->Value)->List AV)(S:yN)(res:ρ->AV)(H1:ρ->List yG)(nst:Nat)(fs:List Fr):Prop:=∀r,o=some r->∀j,Dl P na c (E j) S (wC P na (jK P na fn (res r) (H1 r) nst) fs)
theorem cN{P:Program}{ρ:Type}{f:FuncId}{H0:List yG}{args:List AV}{res:ρ->AV}{H1:ρ->List yG}{nst:Nat}:Cs P none f H0 args res H1 nst:=λ_ h=>nomatch h
theorem lN{P:Program}{ρ:Type}{na:Nb}{fn:Func}{c:Code}{E:(Nat->Value)->List AV}{S:yN}{res:ρ->AV}{H1:ρ->List yG}{nst:Nat}{fs:List Fr}:Ls P none na fn c E S res H1 nst fs:=λ_ h=>nomatch h
section
variable{P:Program}{ρ α:Type}{T:ρ->Prop}{os:List nA}{ob:List Ob}
theorem rN:Rn P T os ob none:=λ_ h=>nomatch h
theorem rH{o:Option α}{f:α->Option ρ}(k:∀a,o=some a->Rn P T os ob (f a)):Rn P T os ob (o>>=f):=λr h q=>by obtain⟨a,h1,h2⟩:=wM h;exact k a h1 r h2 q
theorem rI{c:Bool}{x y:Option ρ}(k1:c=true->Rn P T os ob x)(k2:c=false->Rn P T os ob y):Rn P T os ob (if c=true then x else y):=λr h q=>by
 rcases spl h with⟨h1,h⟩|⟨h1,h⟩;·exact k1 h1 r h q
 ·exact k2 h1 r h q
theorem rS{os':List nA}{ob':List Ob}{o:Option ρ}(w:OL P os ob->OL P os' ob')(k:Rn P T os' ob' o):Rn P T os ob o:=λr h q=>k r h (w q)
theorem rW{o:Option α}{f:α->Option ρ}{os':α->List nA}{ob':α->List Ob}(w:∀{a},o=some a->OL P os ob->OL P (os' a) (ob' a))(k:∀a,Rn P T (os' a) (ob' a) (f a)):Rn P T os ob (o>>=f):=rH λa h=>rS (w h) (k a)
theorem rA{o:Option α}{f:α->Option ρ}{X:Option AV}{c:α->AV}(n:Nat)(w:∀{a},o=some a->X=some (c a))(k:∀a,Rn P T (.av (c a)::(nB n++os)) (.av X (c a)::ob) (f a)):Rn P T os ob (o>>=f):=rH λa h=>rS (oA n (w h)) (k a)
theorem rC{o:Option α}{g:α->Option ρ}{f:FuncId}{H0:List yG}{args:List AV}{res:α->AV}{H1:α->List yG}{nst:Nat}(n:Nat)(ι:List Nat)(w:Cs P o f H0 args res H1 nst)(k:∀a,Rn P T (.call ι (H1 a) nst (res a) none::(nB n++os)) (.call f H0 args (res a) (H1 a) nst::ob) (g a)):Rn P T os ob (o>>=g):=rH λa h=>rS (oC n ι (w a h)) (k a)
theorem rB{c:Bool}{x y:Option ρ}(n:Nat)(k1:Rn P T (.bit true::(nB n++os)) (.bit c true::ob) x)(k2:Rn P T (.bit false::(nB n++os)) (.bit c false::ob) y):Rn P T os ob (if c=true then x else y):=rI (λh=>rS (oB n h) k1) λh=>rS (oB n h) k2
theorem rK{o:Option α}{c:α->Bool}{x y:α->Option ρ}{f:FuncId}{H0:List yG}{args:List AV}{res:α->AV}{H1:α->List yG}{nst:Nat}(n:Nat)(ι:List Nat)(w:Cs P o f H0 args res H1 nst)(k1:∀a,Rn P T (.call ι (H1 a) nst (res a) (some true)::(nB n++os)) (.call f H0 args (res a) (H1 a) nst::.bit (c a) true::ob) (x a))(k2:∀a,Rn P T (.call ι (H1 a) nst (res a) (some false)::(nB n++os)) (.call f H0 args (res a) (H1 a) nst::.bit (c a) false::ob) (y a)):Rn P T os ob (o>>=λa=>if c a=true then x a else y a):=rH λa h=>rI (λh1=>rS (oK n ι h1 (w a h)) (k1 a)) λh1=>rS (oK n ι h1 (w a h)) (k2 a)
theorem rZ(b:Prop){o:Option ρ}(k1:b->Rn P T os ob o)(k2:¬b->Rn P T os ob o):Rn P T os ob o:=(Classical.em b).elim k1 k2
end
def fT(P:Program){ρ:Type}(f:FuncId)(fn:Func)(H0:List yG)(args:List AV)(res:ρ->AV)(H1:ρ->List yG)(nst:Nat)(r:ρ):Prop:=P.funcs[f]?=some fn->fn.body.isNone=false->((res r).fine wS/\∀X∈H1 r,X.fine wS)->uE P f H0 args (res r) (H1 r) nst
def lT(P:Program){ρ:Type}(na:Nb)(fn:Func)(res:ρ->AV)(H1:ρ->List yG)(nst:Nat)(c:Code)(fs:List Fr)(env:List AV)(s:yN)(r:ρ):Prop:=((res r).fine wS/\∀X∈H1 r,X.fine wS)->Dl P na c env s (wC P na (jK P na fn (res r) (H1 r) nst) fs)
section
variable{P:Program}{ρ:Type}{res:ρ->AV}{H1:ρ->List yG}{nst:Nat}{fn:Func}{o:Option ρ}
def zXf(H0:List yG)(args:List AV)(res:ρ->AV)(H1:ρ->List yG):Prop:=AV.argL (λi=>i<H0.length) args/\(∀X∈H0,X.arg (λi=>i<H0.length))/\∀r,(res r).fine (λi=>i<(H1 r).length)/\∀X∈H1 r,X.fine (λi=>i<(H1 r).length)
theorem fW{f:FuncId}{H0:List yG}{args:List AV}(q1:P.funcs[f]?=some fn)(q2:fn.body.isNone=false)(a:zXf H0 args res H1)(k:Rn P (fT P f fn H0 args res H1 nst) [] [] o):Cs P o f H0 args res H1 nst:=λr h=>⟨k r h OL.nil q1 q2 ⟨AV.fine_any _ (a.2.2 r).1,λX hX=>yG.fine_any ((a.2.2 r).2 X hX)⟩,a.1,a.2.1,(a.2.2 r).1,(a.2.2 r).2⟩
theorem lW{na:Nb}{c:Code}{fs:List Fr}{E:(Nat->Value)->List AV}{s:yN}(a:∀r,(res r).fine wS/\∀X∈H1 r,X.fine wS)(k:∀j,Rn P (lT P na fn res H1 nst c fs (E j) s) [] [] o):Ls P o na fn c E s res H1 nst fs:=λr h j=>k j r h OL.nil (a r)
variable{pr:FuncId->List AV->yN->Option LA}(hp:tE P pr)(hm:P.follows .mixedOrders=true){os:List nA}{ob:List Ob}{x:ρ}
include hp hm
theorem zUR{f:FuncId}{H0:List yG}{args:List AV}(m:Nat)(rs:List (Option Nat×Nat×Nat))(keep ks:List Nat)(own:Bool)(h:bK P pr H0.length fn 3000 (.run (sM fn)) [] (args++List.replicate (fn.ntmps-args.length) (.val undef)) (N5 H0) ((nB m++os).reverseAux []) rs keep ks own=some (res x,H1 x,ob.reverseAux []))(hn:nst<=ks.length):Rn P (fT P f fn H0 args res H1 nst) os ob (some x):=by intro r e q q1 q2 a;cases e;exact uE.body q1 q2 (zEx (na:=(H0.length:Nb)) (m:=.run (sM fn)) (fs:=[]) hp hm h (yP.rev _ _ q.ok trivial) hn a.1 a.2)
theorem zXe{f:FuncId}{H0:List yG}{args:List AV}(m:Nat)(rs:List (Option Nat×Nat×Nat))(keep ks live:List Nat){c:Code}{fs':List Fr}{E:(Nat->Value)->List AV}{S:yN}(hk:Ls P o H0.length fn c E S res H1 nst fs')(h:∀j,aI P pr H0.length 3000 (.run (sM fn)) [] (args++List.replicate (fn.ntmps-args.length) (.val undef)) (N5 H0) ((nB m++os).reverseAux []) rs keep ks live j=some (c,fs',E j,S,ob.reverseAux []))(fe:∀j,AV.fineL wS (E j))(fb:∀p∈S.H,p.2.fine wS):Rn P (fT P f fn H0 args res H1 nst) os ob o:=by intro r e q q1 q2 _;exact uE.body q1 q2 (zAE (na:=(H0.length:Nb)) (m:=.run (sM fn)) (fs:=[]) hp hm h (yP.rev _ _ q.ok trivial) fe fb (hk r e))
variable{na:Nb}{c:Code}{fs:List Fr}{env:List AV}{s:yN}
theorem lFin(m:Nat)(rs:List (Option Nat×Nat×Nat))(keep ks:List Nat)(own:Bool)(h:bK P pr na.n fn 3000 (.run c) (.loop c::fs) env s ((nB m++os).reverseAux []) rs keep ks own=some (res x,H1 x,ob.reverseAux []))(hn:nst<=ks.length):Rn P (lT P na fn res H1 nst c fs env s) os ob (some x):=by intro r e q a;cases e;exact Dl.step (zEx hp hm (m:=.run c) (fs:=.loop c::fs) h (yP.rev _ _ q.ok trivial) hn a.1 a.2)
theorem lHead(m:Nat)(rs:List (Option Nat×Nat×Nat))(keep ks live:List Nat){c':Code}{fs':List Fr}{E:(Nat->Value)->List AV}{S:yN}(hk:Ls P o na fn c' E S res H1 nst fs')(h:∀j,aI P pr na.n 3000 (.run c) (.loop c::fs) env s ((nB m++os).reverseAux []) rs keep ks live j=some (c',fs',E j,S,ob.reverseAux []))(fe:∀j,AV.fineL wS (E j))(fb:∀p∈S.H,p.2.fine wS):Rn P (lT P na fn res H1 nst c fs env s) os ob o:=by intro r e q _;exact Dl.step (zAE hp hm (m:=.run c) (fs:=.loop c::fs) h (yP.rev _ _ q.ok trivial) fe fb (hk r e))
end
mutual theorem AV.fine_dat{p:Nat->Prop}:∀a:AV,a.Data->a.fine p|.val _,_=>trivial|.agg cs,h=>AV.fine_datL cs h|.tup cs,h=>AV.fine_datL cs h|.sl _ _ _,h=>h.2|.ip _,h=>h|.mp _ _,h=>h.elim|.ms _ _ _ _ _,h=>h.elim|.obj _,h=>h.elim|.clo _ fs cs,h=>⟨AV.fine_datL fs h.1,AV.fine_datL cs h.2⟩theorem AV.fine_datL{p:Nat->Prop}:∀l:List AV,AV.DataL l->AV.fineL p l|[],_=>trivial|a::l,h=>⟨AV.fine_dat a h.1,AV.fine_datL l h.2⟩end
mutual theorem AV.ren_dat{r:Nat->Nat}{f:Nat->Option Nat}:∀a:AV,a.Data->a.ren r f=a
 |.val _,_=>rfl|.agg cs,h=>by rw[AV.ren,AV.ren_datL cs h]|.tup cs,h=>by rw[AV.ren,AV.ren_datL cs h]|.sl es n o,h=>by cases o<;>first|rfl|exact h.1.elim
 |.ip _,_=>rfl|.mp _ _,h=>h.elim|.ms _ _ _ _ _,h=>h.elim|.obj _,h=>h.elim|.clo _ fs cs,h=>by rw[AV.ren,AV.ren_datL fs h.1,AV.ren_datL cs h.2]theorem AV.ren_datL{r:Nat->Nat}{f:Nat->Option Nat}:∀l:List AV,AV.DataL l->AV.renL r f l=l|[],_=>rfl|a::l,h=>by rw[AV.renL,AV.ren_dat a h.1,AV.ren_datL l h.2]end
theorem AV.fineL_app{p:Nat->Prop}:∀l m:List AV,AV.fineL p l->AV.fineL p m->AV.fineL p (l++m)|[],_,_,h=>h|_::l,m,h,k=>⟨h.1,AV.fineL_app l m h.2 k⟩
theorem AV.renL_app{r:Nat->Nat}{f:Nat->Option Nat}:∀l m:List AV,AV.renL r f (l++m)=AV.renL r f l++AV.renL r f m|[],_=>rfl|a::l,m=>by rw[List.cons_append,AV.renL,AV.renL,AV.renL_app l m,List.cons_append]
def yG.tl(T:List AV):yG->yG|.cells cs=>.cells (cs++T)|X=>X
def S3(H:List (Nat×yG))(keep ks:List Nat)(b:Nat)(T:List AV):List Nat->Nat->List (Nat×yG)|[],_=>[]|i::l,j=>(j,bif Nat.beq i b then(((look H i).getD (.cells [])).ren (vN keep) (place ks)).tl T else((look H i).getD (.cells [])).ren (vN keep) (place ks))::S3 H keep ks b T l (j+1)
def zNy(keep ks:List Nat)(b:Nat)(T:List AV)(s:yN):yN:=⟨S3 s.H keep ks b T keep 0,keep.length,range' 0 ks.length,ks.length,[]⟩
def zGJ(b k:Nat)(cs:List AV)(s:yN):yN:={s with H:=wH s.H b (.cells (cs.take k))}
theorem zNx{keep ks:List Nat}{b k:Nat}{cs:List AV}{s:yN}(hl:look s.H b=some (.cells cs))(hd:AV.DataL (cs.drop k)):zNy keep ks b (cs.drop k) (zGJ b k cs s)=mM keep ks s:=by
 have key:∀(l:List Nat)(j:Nat),S3 (zGJ b k cs s).H keep ks b (cs.drop k) l j=qO s.H keep ks l j:=by intro l;induction l with|nil=>intro j;rfl|cons i l ih=>intro j;rw[S3,qO,ih];have e:look (zGJ b k cs s).H i=if i=b then some (.cells (cs.take k))else look s.H i:=uZ _ _ _ _ _ hl;cases hb:Nat.beq i b with
  |false=>
   have:i≠b:=λe=>by subst e;simp at hb
   rw[e,if_neg this];rfl|true=>have:i=b:=Nat.eq_of_beq_eq_true hb;subst this;rw[e,if_pos rfl,hl];simp only[Option.getD_some,cond_true,yG.ren,yG.tl];rw[<-AV.ren_datL (r:=vN keep) (f:=place ks) _ hd,<-AV.renL_app,List.take_append_drop]
 unfold zNy mM;rw[key]
theorem D5{keep:List Nat}{b k:Nat}{cs:List AV}{s:yN}(hl:look s.H b=some (.cells cs))(hd:AV.DataL (cs.drop k)):∀l:List Nat,sW keep (zGJ b k cs s) l->sW keep s l
 |[],_=>trivial|i::l,h=>by
  refine⟨?_,D5 hl hd l h.2⟩;have h1:=h.1;rw[show look (zGJ b k cs s).H i=if i=b then some (.cells (cs.take k))else look s.H i from uZ _ _ _ _ _ hl]at h1;by_cases e:i=b;·subst e;rw[if_pos rfl]at h1;rw[hl];have:=AV.fineL_app _ _ h1 (AV.fine_datL _ hd);rwa[List.take_append_drop]at this
  ·rw[if_neg e]at h1;exact h1
def Y1(P:Program)(pr:FuncId->List AV->yN->Option LA)(na n:Nat)(m:Md)(fs:List Fr)(env:List AV)(s:yN)(os:List nA)(rs:List (Option Nat×Nat×Nat))(keep ks live:List Nat)(b k:Nat)(j:Nat->Value):Option (Code×List Fr×List AV×yN×List Ob):=match qQ P pr n m fs env s os with
 |some (.head c fs',env1,s1,[],ob)=>match restamps rs env1 s1 with|none=>none|some (env',s')=>match look s'.H b with
  |some (.cells cs)=>bif reB na keep ks s' then match jH keep (zGJ b k cs s') keep,W4 keep live env' 0 with|some o1,some o2=>some (c,fs',reEnv keep ks live j env' 0,zNy keep ks b (cs.drop k) (zGJ b k cs s'),ob++(.data (cs.drop k)::(o1++o2)))|_,_=>none else none|_=>none
 |_=>none
theorem zKd{P:Program}{pr:FuncId->List AV->yN->Option LA}(hp:tE P pr)(hm:P.follows .mixedOrders=true){na:Nb}{Q:AX->List AV->yN->Prop}{n:Nat}{m:Md}{fs fs':List Fr}{env:List AV}{E:(Nat->Value)->List AV}{s S:yN}{os:List nA}{rs:List (Option Nat×Nat×Nat)}{keep ks live:List Nat}{b k:Nat}{c:Code}{ob:List Ob}(h:∀j,Y1 P pr na.n n m fs env s os rs keep ks live b k j=some (c,fs',E j,S,ob))(hob:yP P ob)(hk:∀j,Dl P na c (E j) S (wC P na Q fs')):W3 P na Q fs env s m:=by
 have h0:=h λ_=>undef;unfold Y1 at h0;split at h0
 ·rename_i c' fs1 env1 s1 ob' hr;split at h0;·cases h0
  rename_i env' s' hrs;split at h0
  ·rename_i cs hl;cases hb:reB na.n keep ks s' with|false=>rw[hb]at h0;cases h0|true=>
   rw[hb]at h0;simp only[cond_true]at h0;split at h0
   ·rename_i o1 o2 h1 h2;simp only[Option.some.injEq,Prod.mk.injEq]at h0;obtain⟨rfl,rfl,_,e3,rfl⟩:=h0;obtain⟨q1,q2⟩:=yP.append hob;obtain⟨q0,q2⟩:=q2;obtain⟨q3,q4⟩:=yP.append q2;have hd:AV.DataL (cs.drop k):=q0;rw[zNx hl hd]at e3;subst e3;refine nH hp hm _ _ _ _ _ _ _ _ _ _ _ hr q1 ?_;refine Dl.restamps hrs ?_;refine Dl.re keep ks live hb (D5 hl hd _ (jI _ _ h1 q3)) (J4 _ _ _ h2 q4) λj=>?_;have hj:=h j;unfold Y1 at hj;rw[hr]at hj;simp only[hrs,hb,cond_true,h1,h2,hl,Option.some.injEq,Prod.mk.injEq]at hj;rw[hj.2.2.1];exact hk j
   ·cases h0
  ·cases h0
 ·cases h0
theorem OL.lHeadT{P:Program}{pr:FuncId->List AV->yN->Option LA}(hp:tE P pr)(hm:P.follows .mixedOrders=true){na:Nb}{Q:AX->List AV->yN->Prop}{c c':Code}{fs fs':List Fr}{env:List AV}{s S:yN}(m:Nat)(rs:List (Option Nat×Nat×Nat))(keep ks live:List Nat)(b k:Nat){os:List nA}{ob:List Ob}(q:OL P os ob){E:(Nat->Value)->List AV}(hk:∀j,Dl P na c' (E j) S (wC P na Q fs'))(h:∀j,Y1 P pr na.n 3000 (.run c) (.loop c::fs) env s ((nB m++os).reverseAux []) rs keep ks live b k j=some (c',fs',E j,S,ob.reverseAux [])):Dl P na c env s (wC P na Q fs):=Dl.step (zKd hp hm (m:=.run c) (fs:=.loop c::fs) h (yP.rev _ _ q.ok trivial) hk)
theorem zUz{l k:Nat}:mO (l+(k+1)) 0=some 0:=by unfold mO;rw[if_pos ⟨Int.le_refl 0,by omega⟩];rfl
def zAF{α:Type}(B k:Nat)(l m:List α):Option (List α):=if(l.length+k+m.length)*B<=140737488355328 then some (l++m)else none
theorem zGK{α:Type}{B k:Nat}{l m r:List α}(h:zAF B k l m=some r):(l.length+k+m.length)*B<=140737488355328/\r=l++m:=by
 unfold zAF at h;split at h;·rename_i q;cases h;exact⟨q,rfl⟩
 ·cases h
theorem zNw{P:Program}{α:Type}{c:α->List AV}{sz:Nat}(hc:vG c sz){t e:TypeId}{ie:TypeInfo}{z:Value}(ht:P.underlying t=some (.slice e))(hi:P.info? e=some ie)(hs:ie.size=sz)(hz:ie.zero=some z)(hzs:z.cells.size=sz)(h1:1<=sz){B:Nat}(hb:ie.bytes=B)(hB:1<=B){k:Nat}{pre:List AV}(hpre:pre.length=k*sz){l m r:List α}(h:zAF B k l m=some r)(hm:m.length≠0):Ob.ok P (.mk (cE P t t (some sz) (pre++zH c l) (l.length+k) none (zH c m) m.length) (pre++zH c r) (r.length+k)):=by obtain⟨h2,rfl⟩:=zGK h;subst hs;subst hb;have h3:(l.length+k+m.length)*1<=(l.length+k+m.length)*ie.bytes:=Nat.mul_le_mul_left _ hB;show cE P t t (some ie.size) (pre++zH c l) (l.length+k) none (zH c m) m.length=some (pre++zH c (l++m),(l++m).length+k);unfold cE;simp only[ht,hi,hz];rw[if_pos ⟨trivial,by rw[List.length_append,uA hc.len,hpre,Nat.add_mul];omega,uA hc.len m,h1,hzs,h2,by omega,C4 hc.one m,hm,(λ_ h=>(Option.some.inj h).symm),(λ_ h=>nomatch h)⟩,List.append_assoc,C5,List.length_append];congr 2;omega
end Go.Ab
set_option linter.unusedSimpArgs false
namespace Go.Ab
open Go Go.RowKit
def slC{α:Type}(c:α->List AV)(l:List α):List AV:=[.sl (zH c l) l.length .no]
theorem zXd{α:Type}{c:α->List AV}{n:Nat}(h:vG c n):vG (slC c) 1:=⟨λ_=>rfl,λl=>⟨⟨trivial,vW h.data l⟩,trivial⟩,λ_=>rfl⟩
instance{α:Type}{c:α->List AV}[h:Cd c]:Cd (slC c):=⟨λx=>⟨⟨trivial,vW h.data x⟩,trivial⟩⟩
theorem yU{P:Program}{α:Type}{C L:α->List AV}(he:∀t,C t=L t)(l:List α):Ob.ok P (.cells (zH L l) (zH C l) l.length l.length):=⟨by rw[show L=C from funext λt=>(he t).symm],rfl⟩
theorem zUy{P:Program}(cs:List AV)(n:Nat):Ob.ok P (.mk (some (cs,n)) cs n):=rfl
inductive zG where|mk(kind_:Int)(at_:Int)(name_:ByteArray)(n_:Int)(sub_:List zG)
def zG.kind_:zG->Int|.mk x _ _ _ _=>x
def zG.at_:zG->Int|.mk _ x _ _ _=>x
def zG.name_:zG->ByteArray|.mk _ _ x _ _=>x
def zG.n_:zG->Int|.mk _ _ _ x _=>x
def zG.sub_:zG->List zG|.mk _ _ _ _ x=>x
instance:Inhabited zG:=⟨.mk default default ⟨#[]⟩ default default⟩
mutual def zL:zG->List AV|.mk kind_ at_ name_ n_ sub_=>[ai kind_,ai at_,at' name_,ai n_,.sl (pO sub_) sub_.length .no]def pO:List zG->List AV|[]=>[]|t::l=>zL t++pO l end
theorem gN:∀l:List zG,pO l=zH zL l|[]=>rfl|t::l=>by simp only[pO,gN l,zH,List.flatMap_cons]
def fU(x:zG):List AV:=[ai x.kind_,ai x.at_,at' x.name_,ai x.n_,zC zL x.sub_ .no]
theorem vT(x:zG):zL x=fU x:=by cases x;simp only[zL,fU,zG.kind_,zG.at_,zG.name_,zG.n_,zG.sub_,gN,List.cons_append,List.nil_append]
def yX(x:zG):AV:=.agg (fU x)
mutual theorem bL:∀t:zG,AV.DataL (zL t)|.mk kind_ at_ name_ n_ sub_=>by rw[zL];exact⟨trivial,trivial,trivial,trivial,⟨trivial,gO sub_⟩,trivial⟩theorem gO:∀l:List zG,AV.DataL (pO l)|[]=>trivial|t::l=>by rw[pO];exact nI (bL t) (gO l)end
theorem pV:vG zL 5:=⟨λx=>by rw[vT];rfl,bL,λx=>by rw[vT];rfl⟩
instance:Cd zL:=⟨pV.data⟩
theorem vX(l:List zG):AV.DataL (zH zL l):=vW pV.data l
structure yC where
 name_:ByteArray
 at_:Int
 type_:zG
instance:Inhabited yC:=⟨⟨⟨#[]⟩,default,default⟩⟩
def zF(x:yC):List AV:=[at' x.name_,ai x.at_,ai x.type_.kind_,ai x.type_.at_,at' x.type_.name_,ai x.type_.n_,zC zL x.type_.sub_ .no]
def J8(x:yC):AV:=.agg (zF x)
theorem sX:vG zF 7:=⟨λ_=>rfl,λ_=>⟨trivial,trivial,trivial,trivial,trivial,trivial,⟨trivial,vX _⟩,trivial⟩,λ_=>rfl⟩
instance:Cd zF:=⟨sX.data⟩
theorem wD(l:List yC):AV.DataL (zH zF l):=vW sX.data l
structure xQ where
 at_:Int
 pats_:List zG
 has_:Bool
 body_:zG
instance:Inhabited xQ:=⟨⟨default,default,default,default⟩⟩
def zU(x:xQ):List AV:=[ai x.at_,zC zL x.pats_ .no,ab x.has_,ai x.body_.kind_,ai x.body_.at_,at' x.body_.name_,ai x.body_.n_,zC zL x.body_.sub_ .no]
def zEw(x:xQ):AV:=.agg (zU x)
theorem nJ:vG zU 8:=⟨λ_=>rfl,λ_=>⟨trivial,⟨trivial,vX _⟩,trivial,trivial,trivial,trivial,trivial,⟨trivial,vX _⟩,trivial⟩,λ_=>rfl⟩
instance:Cd zU:=⟨nJ.data⟩
theorem sY(l:List xQ):AV.DataL (zH zU l):=vW nJ.data l
structure yM where
 kind_:Int
 at_:Int
 name_:ByteArray
 tele_:List yC
 type_:zG
 cons_:List yC
 rows_:List xQ
instance:Inhabited yM:=⟨⟨default,default,⟨#[]⟩,default,default,default,default⟩⟩
def uI(x:yM):List AV:=[ai x.kind_,ai x.at_,at' x.name_,zC zF x.tele_ .no,ai x.type_.kind_,ai x.type_.at_,at' x.type_.name_,ai x.type_.n_,zC zL x.type_.sub_ .no,zC zF x.cons_ .no,zC zU x.rows_ .no]
def J9(x:yM):AV:=.agg (uI x)
theorem lU:vG uI 11:=⟨λ_=>rfl,λ_=>⟨trivial,trivial,trivial,⟨trivial,wD _⟩,trivial,trivial,trivial,trivial,⟨trivial,vX _⟩,⟨trivial,wD _⟩,⟨trivial,sY _⟩,trivial⟩,λ_=>rfl⟩
instance:Cd uI:=⟨lU.data⟩
structure zM where
 kind_:Int
 text_:ByteArray
 at_:Int
instance:Inhabited zM:=⟨⟨default,⟨#[]⟩,default⟩⟩
def zI(x:zM):List AV:=[ai x.kind_,at' x.text_,ai x.at_]
def O5(x:zM):AV:=.agg (zI x)
theorem nC:vG zI 3:=⟨λ_=>rfl,λ_=>⟨trivial,trivial,trivial,trivial⟩,λ_=>rfl⟩
instance:Cd zI:=⟨nC.data⟩
structure zEv where
 l_:List zM
 i_:Int
 at_:Int
 bad_:Int
instance:Inhabited zEv:=⟨⟨default,default,default,default⟩⟩
structure zKc where
 l_:List zX
 parts_:List uK
instance:Inhabited zKc:=⟨⟨default,default⟩⟩
structure zEu where
 signs_:List Int
 at_:List Int
 i_:Int
instance:Inhabited zEu:=⟨⟨default,default,default⟩⟩
structure zEt where
 l_:List zX
 e_:Int
 at_:Int
instance:Inhabited zEt:=⟨⟨default,default,default⟩⟩
structure zKb where e_:Int
instance:Inhabited zKb:=⟨⟨default⟩⟩
end Go.Ab
namespace Go.Proofs.YthncchbcdpbgaaaGreat
open Go Go.Ab Go.Proofs.Tryz
theorem zCp(b:Bool):b=true\/b=false:=by cases b<;>simp
theorem xC{α:Type}{p:α->Prop}:∀x∈([]:List α),p x:=λ_ h=>nomatch h
theorem xD{α:Type}{p:α->Prop}{a:α}{l:List α}(h:p a)(k:∀x∈l,p x):∀x∈a::l,p x:=by
 intro x hx;rcases List.mem_cons.1 hx with rfl|hx;·exact h
 ·exact k x hx
instance:Cd entZ:=⟨zIB.data⟩
theorem o0:OL prog [] []:=OL.nil
abbrev mB(M:wA)(i:Nat):yG:=.cells [zC zP M.l .no,.mp i 0,zC zQ M.args .no,zC zQ M.own .no]
abbrev mR(M:wA):yG:=.cells [zC zP M.rl .no,zC qS M.parts .no]
theorem tv:True:=trivial
theorem lz{a b:Nat}(h:Nat.ble (a+1) b=true):a<b:=Nat.le_of_ble_eq_true h
abbrev Ct:=CT prog
abbrev Cz{ρ:Type}:=@Cs prog ρ
abbrev Lz{ρ:Type}:=@Ls prog ρ
abbrev Ci:=uE prog
abbrev Cf:=FuncId->List yG->List AV->AV->List yG->Nat->Prop
abbrev Qf(f:FuncId)(fn:Func):Prop:=prog.funcs[f]?=some fn/\fn.body.isNone=false
theorem xF{p:Nat->Prop}(z:p 0)(s:∀n,p n->p (n+1)):∀n,p n:=λn=>Nat.rec z s n
section
variable{ρ:Type}{res:ρ->AV}{H1:ρ->List yG}{nst:Nat}{fn:Func}{o:Option ρ}{r x:ρ}{f:FuncId}{H0:List yG}{args:List AV}{os:List nA}{ob:List Ob}
theorem fw(q1:prog.funcs[f]?=some fn)(k:Rn prog (fT prog f fn H0 args res H1 nst) [] [] o)(q2:fn.body.isNone=false:=by kernel_rfl)(a:zXf H0 args res H1:=by(repeat' first|exact Cd.d _|exact trivial|exact lz rfl|exact xC|refine And.intro ?_ ?_|refine xD ?_ ?_|refine iT ?_ ?_|intro _)):Cs prog o f H0 args res H1 nst:=fW q1 q2 a k
theorem fG(m:Nat)(rs:List (Option Nat×Nat×Nat))(keep ks:List Nat)(own:Bool)(h:bK prog pM H0.length fn 3000 (.run (sM fn)) [] (args++List.replicate (fn.ntmps-args.length) (.val undef)) (N5 H0) ((nB m++os).reverseAux []) rs keep ks own=some (res x,H1 x,ob.reverseAux []):=by kernel_rfl)(hn:nst<=ks.length:=by decide):Rn prog (fT prog f fn H0 args res H1 nst) os ob (some x):=zUR wL mixed m rs keep ks own h hn
theorem fF(m:Nat)(keep:List Nat)(h:bK prog pM H0.length fn 3000 (.run (sM fn)) [] (args++List.replicate (fn.ntmps-args.length) (.val undef)) (N5 H0) ((nB m++os).reverseAux []) [] keep [] false=some (res x,H1 x,ob.reverseAux []):=by kernel_rfl):Rn prog (fT prog f fn H0 args res H1 0) os ob (some x):=zUR wL mixed m [] keep [] false h (Nat.le_refl _)
theorem fE(m:Nat)(h:bK prog pM H0.length fn 3000 (.run (sM fn)) [] (args++List.replicate (fn.ntmps-args.length) (.val undef)) (N5 H0) ((nB m++os).reverseAux []) [] (range' 0 H0.length) [] false=some (res x,H1 x,ob.reverseAux []):=by kernel_rfl):Rn prog (fT prog f fn H0 args res H1 0) os ob (some x):=zUR wL mixed m [] _ [] false h (Nat.le_refl _)
theorem fH(m:Nat)(rs:List (Option Nat×Nat×Nat))(keep ks live:List Nat){c:Code}{fs':List Fr}{E:(Nat->Value)->List AV}{S:yN}(hk:Ls prog o H0.length fn c E S res H1 nst fs')(h:∀j,aI prog pM H0.length 3000 (.run (sM fn)) [] (args++List.replicate (fn.ntmps-args.length) (.val undef)) (N5 H0) ((nB m++os).reverseAux []) rs keep ks live j=some (c,fs',E j,S,ob.reverseAux []):=by intro j;kernel_rfl)(fe:∀j,AV.fineL wS (E j):=by intro j;refine D4 _ _ _ _ ?_;(repeat' first|exact Cd.d _|exact trivial|exact lz rfl|exact xC|refine And.intro ?_ ?_|refine xD ?_ ?_|refine iT ?_ ?_|intro _))(fb:∀p∈S.H,p.2.fine wS:=by(repeat' first|exact Cd.d _|exact trivial|exact lz rfl|exact xC|refine And.intro ?_ ?_|refine xD ?_ ?_|refine iT ?_ ?_|intro _)):Rn prog (fT prog f fn H0 args res H1 nst) os ob o:=zXe wL mixed m rs keep ks live hk h fe fb
variable{na:Nb}{c:Code}{fs:List Fr}{env:List AV}{s:yN}
theorem lw{E:(Nat->Value)->List AV}(k:∀j,Rn prog (lT prog na fn res H1 nst c fs (E j) s) [] [] o)(a:∀r,(res r).fine wS/\∀X∈H1 r,X.fine wS:=by(repeat' first|exact Cd.d _|exact trivial|exact lz rfl|exact xC|refine And.intro ?_ ?_|refine xD ?_ ?_|refine iT ?_ ?_|intro _)):Ls prog o na fn c E s res H1 nst fs:=lW a k
theorem lG(m:Nat)(rs:List (Option Nat×Nat×Nat))(keep ks:List Nat)(own:Bool)(h:bK prog pM na.n fn 3000 (.run c) (.loop c::fs) env s ((nB m++os).reverseAux []) rs keep ks own=some (res x,H1 x,ob.reverseAux []):=by kernel_rfl)(hn:nst<=ks.length:=by decide):Rn prog (lT prog na fn res H1 nst c fs env s) os ob (some x):=lFin wL mixed m rs keep ks own h hn
theorem lF(m:Nat)(keep:List Nat)(h:bK prog pM na.n fn 3000 (.run c) (.loop c::fs) env s ((nB m++os).reverseAux []) [] keep [] false=some (res x,H1 x,ob.reverseAux []):=by kernel_rfl):Rn prog (lT prog na fn res H1 0 c fs env s) os ob (some x):=lFin wL mixed m [] keep [] false h (Nat.le_refl _)
theorem lE(m:Nat)(h:bK prog pM na.n fn 3000 (.run c) (.loop c::fs) env s ((nB m++os).reverseAux []) [] (range' 0 na.n) [] false=some (res x,H1 x,ob.reverseAux []):=by kernel_rfl):Rn prog (lT prog na fn res H1 0 c fs env s) os ob (some x):=lFin wL mixed m [] _ [] false h (Nat.le_refl _)
theorem lH(m:Nat)(rs:List (Option Nat×Nat×Nat))(keep ks live:List Nat){c':Code}{fs':List Fr}{E:(Nat->Value)->List AV}{S:yN}(hk:Ls prog o na fn c' E S res H1 nst fs')(h:∀j,aI prog pM na.n 3000 (.run c) (.loop c::fs) env s ((nB m++os).reverseAux []) rs keep ks live j=some (c',fs',E j,S,ob.reverseAux []):=by intro j;kernel_rfl)(fe:∀j,AV.fineL wS (E j):=by intro j;refine D4 _ _ _ _ ?_;(repeat' first|exact Cd.d _|exact trivial|exact lz rfl|exact xC|refine And.intro ?_ ?_|refine xD ?_ ?_|refine iT ?_ ?_|intro _))(fb:∀p∈S.H,p.2.fine wS:=by(repeat' first|exact Cd.d _|exact trivial|exact lz rfl|exact xC|refine And.intro ?_ ?_|refine xD ?_ ?_|refine iT ?_ ?_|intro _)):Rn prog (lT prog na fn res H1 nst c fs env s) os ob o:=lHead wL mixed m rs keep ks live hk h fe fb
end
section
variable{f:FuncId}{fn:Func}{H0 H1:List yG}{args:List AV}{res:AV}{nst:Nat}{os:List nA}{ob:List Ob}
theorem tF(q:Qf f fn)(m:Nat)(keep:List Nat)(k:OL prog os ob)(h:Q4 prog pM H0.length fn 3000 (.run (sM fn)) [] (args++List.replicate (fn.ntmps-args.length) (.val undef)) (N5 H0) ((nB m++os).reverseAux []) [] keep [] false=some (res,H1,ob.reverseAux []):=by kernel_rfl):uE prog f H0 args res H1 0:=OL.toFin wL mixed q m [] keep [] false k h (Nat.le_refl _)
theorem tG(q:Qf f fn)(m:Nat)(rs:List (Option Nat×Nat×Nat))(keep ks:List Nat)(own:Bool)(k:OL prog os ob)(h:Q4 prog pM H0.length fn 3000 (.run (sM fn)) [] (args++List.replicate (fn.ntmps-args.length) (.val undef)) (N5 H0) ((nB m++os).reverseAux []) rs keep ks own=some (res,H1,ob.reverseAux []):=by kernel_rfl)(hn:nst<=ks.length:=by decide):uE prog f H0 args res H1 nst:=OL.toFin wL mixed q m rs keep ks own k h hn
theorem tH(q:Qf f fn)(m:Nat)(rs:List (Option Nat×Nat×Nat))(keep ks live:List Nat)(k:OL prog os ob){c:Code}{fs':List Fr}{E:(Nat->Value)->List AV}{S:yN}(hk:∀j,Dl prog H0.length c (E j) S (wC prog H0.length (jK prog H0.length fn res H1 nst) fs'))(h:∀j,C2 prog pM H0.length 3000 (.run (sM fn)) [] (args++List.replicate (fn.ntmps-args.length) (.val undef)) (N5 H0) ((nB m++os).reverseAux []) rs keep ks live j=some (c,fs',E j,S,ob.reverseAux []):=by intro j;kernel_rfl):uE prog f H0 args res H1 nst:=OL.toHead wL mixed q m rs keep ks live k hk h
variable{na:Nb}{Q:AX->List AV->yN->Prop}{c c':Code}{fs fs':List Fr}{env:List AV}{s S:yN}
theorem olH(m:Nat)(rs:List (Option Nat×Nat×Nat))(keep ks live:List Nat)(k:OL prog os ob){E:(Nat->Value)->List AV}(hk:∀j,Dl prog na c' (E j) S (wC prog na Q fs'))(h:∀j,C2 prog pM na.n 3000 (.run c) (.loop c::fs) env s ((nB m++os).reverseAux []) rs keep ks live j=some (c',fs',E j,S,ob.reverseAux []):=by intro j;kernel_rfl):Dl prog na c env s (wC prog na Q fs):=OL.lHead wL mixed m rs keep ks live k hk h
theorem zUS(m:Nat)(rs:List (Option Nat×Nat×Nat))(keep ks live:List Nat)(bb nn:Nat)(k:OL prog os ob){E:(Nat->Value)->List AV}(hk:∀j,Dl prog na c' (E j) S (wC prog na Q fs'))(h:∀j,Y1 prog pM na.n 3000 (.run c) (.loop c::fs) env s ((nB m++os).reverseAux []) rs keep ks live bb nn j=some (c',fs',E j,S,ob.reverseAux []):=by intro j;kernel_rfl):Dl prog na c env s (wC prog na Q fs):=OL.lHeadT wL mixed m rs keep ks live bb nn k hk h
theorem olF(m:Nat)(keep:List Nat)(k:OL prog os ob)(h:Q4 prog pM na.n fn 3000 (.run c) (.loop c::fs) env s ((nB m++os).reverseAux []) [] keep [] false=some (res,H1,ob.reverseAux []):=by kernel_rfl):Dl prog na c env s (wC prog na (jK prog na fn res H1 0) fs):=OL.lFin wL mixed m [] keep [] false k h (Nat.le_refl _)
theorem olG(m:Nat)(rs:List (Option Nat×Nat×Nat))(keep ks:List Nat)(own:Bool)(k:OL prog os ob)(h:Q4 prog pM na.n fn 3000 (.run c) (.loop c::fs) env s ((nB m++os).reverseAux []) rs keep ks own=some (res,H1,ob.reverseAux []):=by kernel_rfl)(hn:nst<=ks.length:=by decide):Dl prog na c env s (wC prog na (jK prog na fn res H1 nst) fs):=OL.lFin wL mixed m rs keep ks own k h hn
end
theorem gP:prog.info? 37=some Tryz.t37:=by kernel_rfl
theorem zXc{k:Nat}{pre:List AV}(hp:pre.length=k*15){l m r:List zX}(h:zAF 192 k l m=some r)(hm:m.length≠0):Ob.ok prog (.mk (cE prog 23 23 (some 15) (pre++(zH zP l)) (l.length+k) none (zH zP m) m.length) (pre++(zH zP r)) (r.length+k)):=zNw aD Tryz.underlying23 gP rfl rfl rfl (by decide) rfl (by decide) hp h hm
theorem zXb{l m r:List zX}(h:yT 192 l m=some r)(hm:m.length=0):Ob.ok prog (.app 23 23 (zH zP l) (zH zP m) (zH zP r) l.length m.length r.length 15 true):=kH aD Tryz.underlying23 gP rfl rfl rfl (by decide) rfl (by decide) h hm
theorem nZ:prog.info? 33=some Tryz.t33:=by kernel_rfl
theorem qT{l m r:List Tm}(h:yT 40 l m=some r)(hm:m.length=0):Ob.ok prog (.app 30 30 (zH zA l) (zH zA m) (zH zA r) l.length m.length r.length 3 true):=kH tV Tryz.underlying30 nZ rfl rfl rfl (by decide) rfl (by decide) h hm
theorem Y2:prog.info? 3=some Tryz.t3:=by kernel_rfl
theorem zNv{l m r:List Int}(h:yT 8 l m=some r)(hm:m.length=0):Ob.ok prog (.app 35 35 (zH zQ l) (zH zQ m) (zH zQ r) l.length m.length r.length 1 true):=kH lQ Tryz.underlying35 Y2 rfl rfl rfl (by decide) rfl (by decide) h hm
theorem zCo:prog.info? 169=some Tryz.t169:=by kernel_rfl
theorem zXa{l m r:List yC}(h:yT 88 l m=some r)(hm:m.length=0):Ob.ok prog (.app 54 54 (zH zF l) (zH zF m) (zH zF r) l.length m.length r.length 7 true):=kH sX Tryz.underlying54 zCo rfl rfl rfl (by decide) rfl (by decide) h hm
theorem zID:prog.info? 9=some Tryz.t9:=by kernel_rfl
theorem zXA{l m r:List ByteArray}(h:yT 16 l m=some r)(hm:m.length=0):Ob.ok prog (.app 79 79 (zH xJ l) (zH xJ m) (zH xJ r) l.length m.length r.length 1 true):=kH J5 Tryz.underlying79 zID rfl rfl rfl (by decide) rfl (by decide) h hm
theorem zXB{n:Nat}(h:n=0):Ob.ok prog (.same 30 30 n):=zIa Tryz.underlying30 nZ h
theorem zXC{n:Nat}(h:n=0):Ob.ok prog (.same 35 35 n):=zIa Tryz.underlying35 Y2 h
theorem zXD{l m r:List Tm}(h:yT 40 l m=some r)(hm:m.length≠0):Ob.ok prog (.mk (cE prog 30 30 (some 3) (zH zA l) l.length none (zH zA m) m.length) (zH zA r) r.length):=zMU tV Tryz.underlying30 nZ rfl rfl rfl (by decide) rfl (by decide) h hm
theorem zIE:prog.info? 108=some Tryz.t108:=by kernel_rfl
theorem zNu{l m r:List zM}(h:yT 32 l m=some r)(hm:m.length≠0):Ob.ok prog (.app 104 104 (zH zI l) (zH zI m) (zH zI r) l.length m.length r.length 3 false):=sA nC Tryz.underlying104 zIE rfl rfl rfl (by decide) rfl (by decide) h hm
theorem zUx{l m r:List zX}(h:yT 192 l m=some r)(hm:m.length≠0):Ob.ok prog (.app 23 23 (zH zP l) (zH zP m) (zH zP r) l.length m.length r.length 15 false):=sA aD Tryz.underlying23 gP rfl rfl rfl (by decide) rfl (by decide) h hm
theorem zIF:prog.info? 259=some Tryz.t259:=by kernel_rfl
theorem zUT{l m r:List tK}(h:yT 56 l m=some r)(hm:m.length≠0):Ob.ok prog (.app 231 231 (zH iS l) (zH iS m) (zH iS r) l.length m.length r.length 3 false):=sA zCx Tryz.underlying231 zIF rfl rfl rfl (by decide) rfl (by decide) h hm
theorem xY{l m r:List Tm}(h:yT 40 l m=some r)(hm:m.length≠0):Ob.ok prog (.app 30 30 (zH zA l) (zH zA m) (zH zA r) l.length m.length r.length 3 false):=sA tV Tryz.underlying30 nZ rfl rfl rfl (by decide) rfl (by decide) h hm
theorem sO{l m r:List Int}(h:yT 8 l m=some r)(hm:m.length≠0):Ob.ok prog (.app 35 35 (zH zQ l) (zH zQ m) (zH zQ r) l.length m.length r.length 1 false):=sA lQ Tryz.underlying35 Y2 rfl rfl rfl (by decide) rfl (by decide) h hm
theorem zNt:prog.info? 60=some Tryz.t60:=by kernel_rfl
theorem zXE{l m r:List yM}(h:yT 168 l m=some r)(hm:m.length≠0):Ob.ok prog (.app 50 50 (zH uI l) (zH uI m) (zH uI r) l.length m.length r.length 11 false):=sA lU Tryz.underlying50 zNt rfl rfl rfl (by decide) rfl (by decide) h hm
theorem zNs{l m r:List yC}(h:yT 88 l m=some r)(hm:m.length≠0):Ob.ok prog (.app 54 54 (zH zF l) (zH zF m) (zH zF r) l.length m.length r.length 7 false):=sA sX Tryz.underlying54 zCo rfl rfl rfl (by decide) rfl (by decide) h hm
theorem zNr:prog.info? 57=some Tryz.t57:=by kernel_rfl
theorem zUw{l m r:List zG}(h:yT 64 l m=some r)(hm:m.length≠0):Ob.ok prog (.app 55 55 (zH zL l) (zH zL m) (zH zL r) l.length m.length r.length 5 false):=sA pV Tryz.underlying55 zNr rfl rfl rfl (by decide) rfl (by decide) h hm
theorem zIG:prog.info? 165=some Tryz.t165:=by kernel_rfl
theorem zXF{l m r:List xQ}(h:yT 104 l m=some r)(hm:m.length≠0):Ob.ok prog (.app 58 58 (zH zU l) (zH zU m) (zH zU r) l.length m.length r.length 8 false):=sA nJ Tryz.underlying58 zIG rfl rfl rfl (by decide) rfl (by decide) h hm
theorem D6{l m r:List ByteArray}(h:yT 16 l m=some r)(hm:m.length≠0):Ob.ok prog (.app 79 79 (zH xJ l) (zH xJ m) (zH xJ r) l.length m.length r.length 1 false):=sA J5 Tryz.underlying79 zID rfl rfl rfl (by decide) rfl (by decide) h hm
theorem zUU{l m r:List zXg}(h:yT 192 l m=some r)(hm:m.length≠0):Ob.ok prog (.app 23 23 (zH entZ l) (zH entZ m) (zH entZ r) l.length m.length r.length 15 false):=sA zIB Tryz.underlying23 gP rfl rfl rfl (by decide) rfl (by decide) h hm
theorem zIH:prog.info? 5=some Tryz.t5:=by kernel_rfl
theorem zNq{l r:List U8}{bs:ByteArray}(h:yT 1 l (gbs bs)=some r)(hm:(gbs bs).length≠0):Ob.ok prog (.aps 280 9 (zH aC l) bs (zH aC r) l.length r.length 1 false):=zMW Tryz.underlying280 Tryz.underlying9 zIH rfl rfl rfl rfl h (by rwa[jP]at hm)
theorem zKa{l r:List U8}{bs:ByteArray}(h:yT 1 l (gbs bs)=some r)(hm:(gbs bs).length=0):Ob.ok prog (.aps 280 9 (zH aC l) bs (zH aC r) l.length r.length 1 true):=zMX Tryz.underlying280 Tryz.underlying9 zIH rfl rfl rfl rfl h (by rwa[jP]at hm)
theorem zXG{m r:List Tm}(h:yT 40 ([]:List Tm) m=some r)(hm:m.length≠0):Ob.ok prog (.mk (cE prog 30 30 (none) [] 0 none (zH zA m) m.length) (zH zA r) r.length):=zEz tV Tryz.underlying30 nZ rfl rfl rfl (by decide) rfl (by decide) h hm
theorem zXH{m r:List Int}(h:yT 8 ([]:List Int) m=some r)(hm:m.length≠0):Ob.ok prog (.mk (cE prog 35 35 (none) [] 0 none (zH zQ m) m.length) (zH zQ r) r.length):=zEz lQ Tryz.underlying35 Y2 rfl rfl rfl (by decide) rfl (by decide) h hm
theorem sH(l:List U8){o:pF}:lZ prog 280 9 (.sl (zH aC l) l.length o)=some (at' (qK l)):=zMO Tryz.underlying280 Tryz.underlying9 Tryz.underlying5 l
theorem zNp{n:Nat}{l:List U8}{bs:ByteArray}(h:gtx n l=some bs):Ob.ok prog (.str (mT prog 280 9 (zH aC l) n) bs):=zMZ Tryz.underlying280 Tryz.underlying9 Tryz.underlying5 h
theorem zUv{l:List zM}{i:Int}{o:pF}{x:zM}(h:zO l i=some x):xI prog 104 (.sl (zH zI l) l.length o) (ai i)=some (.ip (zI x++zH zI (l.drop (i.toNat+1)))):=by have:=iP nC (k:=.i64) Tryz.underlying104 zIE rfl h (o:=o);exact this
theorem zCn:prog.info? 233=some Tryz.t233:=by kernel_rfl
theorem zXI{l:List uK}{i:Int}{o:pF}{x:uK}(h:zO l i=some x):xI prog 183 (.sl (zH qS l) l.length o) (ai i)=some (.ip (qS x++zH qS (l.drop (i.toNat+1)))):=by have:=iP zCw (k:=.i64) Tryz.underlying183 zCn rfl h (o:=o);exact this
theorem zUV:prog.info? 23=some Tryz.t23:=by kernel_rfl
theorem zUu{l:List (List zX)}{i:Int}{o:pF}{x:List zX}(h:zO l i=some x):xI prog 229 (.sl (zH (slC zP) l) l.length o) (ai i)=some (.ip ((slC zP) x++zH (slC zP) (l.drop (i.toNat+1)))):=by have:=iP (zXd aD) (k:=.i64) Tryz.underlying229 zUV rfl h (o:=o);exact this
theorem xN{l:List zX}{i:Int}{o:pF}{x:zX}(h:zO l i=some x):xI prog 23 (.sl (zH zP l) l.length o) (ai i)=some (.ip (zP x++zH zP (l.drop (i.toNat+1)))):=by have:=iP aD (k:=.i64) Tryz.underlying23 gP rfl h (o:=o);exact this
theorem zUt{l:List tK}{i:Int}{o:pF}{x:tK}(h:zO l i=some x):xI prog 231 (.sl (zH iS l) l.length o) (ai i)=some (.ip (iS x++zH iS (l.drop (i.toNat+1)))):=by have:=iP zCx (k:=.i64) Tryz.underlying231 zIF rfl h (o:=o);exact this
theorem xA{l:List Tm}{i:Int}{o:pF}{x:Tm}(h:zO l i=some x):xI prog 30 (.sl (zH zA l) l.length o) (ai i)=some (.ip (Q5 x++zH zA (l.drop (i.toNat+1)))):=by have:=iP tV (k:=.i64) Tryz.underlying30 nZ rfl h (o:=o);rw[xH]at this;exact this
theorem sS{l:List Int}{i:Int}{o:pF}{x:Int}(h:zO l i=some x):xI prog 35 (.sl (zH zQ l) l.length o) (ai i)=some (.ip (zQ x++zH zQ (l.drop (i.toNat+1)))):=by have:=iP lQ (k:=.i64) Tryz.underlying35 Y2 rfl h (o:=o);exact this
theorem zZS{l:List yM}{i:Int}{o:pF}{x:yM}(h:zO l i=some x):xI prog 50 (.sl (zH uI l) l.length o) (ai i)=some (.ip (uI x++zH uI (l.drop (i.toNat+1)))):=by have:=iP lU (k:=.i64) Tryz.underlying50 zNt rfl h (o:=o);exact this
theorem Y3{l:List yC}{i:Int}{o:pF}{x:yC}(h:zO l i=some x):xI prog 54 (.sl (zH zF l) l.length o) (ai i)=some (.ip (zF x++zH zF (l.drop (i.toNat+1)))):=by have:=iP sX (k:=.i64) Tryz.underlying54 zCo rfl h (o:=o);exact this
theorem zEs{l:List zG}{i:Int}{o:pF}{x:zG}(h:zO l i=some x):xI prog 55 (.sl (zH zL l) l.length o) (ai i)=some (.ip (fU x++zH zL (l.drop (i.toNat+1)))):=by have:=iP pV (k:=.i64) Tryz.underlying55 zNr rfl h (o:=o);rw[vT]at this;exact this
theorem zZT{l:List xQ}{i:Int}{o:pF}{x:xQ}(h:zO l i=some x):xI prog 58 (.sl (zH zU l) l.length o) (ai i)=some (.ip (zU x++zH zU (l.drop (i.toNat+1)))):=by have:=iP nJ (k:=.i64) Tryz.underlying58 zIG rfl h (o:=o);exact this
theorem zQG{l:List ByteArray}{i:Int}{o:pF}{x:ByteArray}(h:zO l i=some x):xI prog 79 (.sl (zH xJ l) l.length o) (ai i)=some (.ip (xJ x++zH xJ (l.drop (i.toNat+1)))):=by have:=iP J5 (k:=.i64) Tryz.underlying79 zID rfl h (o:=o);exact this
theorem zEr{l:List Int}{i x:Int}(h:zO l i=some x)(hl:l.length=9):lM prog 292 (.agg (zH zQ l)) (ai i)=some (ai x):=zDN (k:=.i64) Tryz.underlying292 (q:=(false,1)) (by kernel_rfl) rfl hl h
theorem zNo{l:List Int}{i x:Int}(h:zO l i=some x)(hl:l.length=11):lM prog 302 (.agg (zH zQ l)) (ai i)=some (ai x):=zDN (k:=.i64) Tryz.underlying302 (q:=(false,1)) (by kernel_rfl) rfl hl h
theorem zUW{b n k c z:Nat}{i:Int}(h:mO n i=some k):xI prog 183 (.ms b 0 n c z) (ai i)=some (.mp b (k*3)):=zCq Tryz.underlying183 zCn rfl h
theorem zUs{b n k c z:Nat}{i:Int}(h:mO n i=some k):xI prog 23 (.ms b 0 n c z) (ai i)=some (.mp b (k*15)):=zCq Tryz.underlying23 gP rfl h
theorem zNn{b n k c z:Nat}{i:Int}(h:mO n i=some k):xI prog 280 (.ms b 0 n c z) (ai i)=some (.mp b (k*1)):=zCq Tryz.underlying280 zIH rfl h
theorem zII{b n k c z:Nat}{i:Int}(h:mO n i=some k):xI prog 30 (.ms b 0 n c z) (ai i)=some (.mp b (k*3)):=zCq Tryz.underlying30 nZ rfl h
theorem zGL{s:ByteArray}{i x:Int}(h:O0 s i=some x):lM prog 9 (at' s) (ai i)=some (.val (.int .u8 x)):=zMN Tryz.underlying9 h
theorem zIJ(m:List (ByteArray×Int))(k:ByteArray):Ob.ok prog (.lk 181 (X3 m) (at' k) false (ai (X4 m k))):=zXl Tryz.underlying181 Tryz.underlying9 Y2 rfl m k
theorem zNm{n:Int}{l:List uK}(h:gmk 72 (default:uK) n=some l):Ob.ok prog (.mk (qP prog 183 (ai n) (ai n)) (zH qS l) l.length):=zMR Tryz.underlying183 zCn rfl rfl rfl (by decide) rfl (by decide) (by rfl) h
theorem zUX{n:Int}{l:List U8}(h:gmk 1 (default:U8) n=some l):Ob.ok prog (.mk (qP prog 280 (ai n) (ai n)) (zH aC l) l.length):=zMR Tryz.underlying280 zIH rfl rfl rfl (by decide) rfl (by decide) (by rfl) h
theorem zUr(m:List (ByteArray×Int))(k:ByteArray)(v:Int):Ob.ok prog (.mu 181 (X3 m) (at' k) (ai v) (X3 (Q7 m k v))):=zXk Tryz.underlying181 Tryz.underlying9 m k v
theorem zQH{l r:List Int}{a b:Int}(h:sN l a b=some r):vY prog 35 (.sl (zH zQ l) l.length .no) (some (ai a)) (some (ai b)) none=some (.sl (zH zQ r) r.length .no):=zMC lQ Tryz.underlying35 Y2 rfl h
theorem qU{l r:List Tm}{a:Int}(h:sN l a l.length=some r):vY prog 30 (.sl (zH zA l) l.length .no) (some (ai a)) none none=some (.sl (zH zA r) r.length .no):=zCu tV Tryz.underlying30 nZ rfl h
theorem zQI{b off n c:Nat}{y:Int}{r:Nat×Nat}(h:zKf c 0 y=some r):vY prog 23 (.ms b off n c 15) none (some (ai y)) none=some (.ms b off r.2 c 15):=zMT Tryz.underlying23 gP rfl (by decide) h
theorem rM{l r:List Tm}{b:Int}(h:sN l 0 b=some r):vY prog 30 (.sl (zH zA l) l.length .no) none (some (ai b)) none=some (.sl (zH zA r) r.length .no):=zGC tV Tryz.underlying30 nZ rfl h
theorem mA{l r:List Tm}{b:Int}{o:pF}(h:sN l 0 b=some r):vY prog 30 (.sl (zH zA l) l.length o) none (some (ai b)) (some (ai b))=some (.sl (zH zA r) r.length .full):=O1 tV Tryz.underlying30 nZ rfl h
theorem zNl{l r:List ByteArray}{b:Int}{o:pF}(h:sN l 0 b=some r):vY prog 79 (.sl (zH xJ l) l.length o) none (some (ai b)) (some (ai b))=some (.sl (zH xJ r) r.length .full):=O1 J5 Tryz.underlying79 zID rfl h
theorem zIK{l r:List Tm}{b:Int}{o:pF}(h:sN l 0 b=some r):∃a0,vY prog 30 (.sl (zH zA l) l.length o) none (some (ai b)) none=some a0/\a0.frz=.sl (zH zA r) r.length .no:=zDP tV Tryz.underlying30 nZ rfl h
theorem zQJ{n:Int}{l:List zX}(hp:n>0)(h:gmk 192 (default:zX) n=some l):Ob.ok prog (.mk (V8 prog 23 3 (ai n)) (zH zP l) l.length):=zXh Tryz.underlying3 hp (zMR Tryz.underlying23 gP rfl rfl rfl (by decide) rfl (by decide) (by rfl) h)
def ptG:Nat->Nat->Func->Code|0,_,f=>sM f|k+1,n,f=>if n=0 then sM f else if n%4=1 then inn (ptG k (n/4) f)else if n%4=2 then gI (ptG k (n/4) f)else rL (ptG k (n/4) f)
abbrev pt:=ptG 99
abbrev Oz:=OL prog
abbrev dL:=Dl prog
abbrev fQ:=wC prog
abbrev nQ:=jK prog
abbrev qB(q0:List zX)(m:Nat)(q3 q4:List Int):yG:=.cells [zC zP q0 .no,.mp m 0,zC zQ q3 .no,zC zQ q4 .no]
abbrev qR(q1:List zX)(q2:List uK):yG:=.cells [zC zP q1 .no,zC qS q2 .no]
theorem oDm{os:List nA}{ob:List Ob}(q0 q1:List zX)(q2:List uK)(q3 q4:List Int)(k:Oz os ob):Oz os (.data (zH qS q2)::.data (zH zP q1)::.data (zH zQ q4)::.data (zH zQ q3)::.data (zH zP q0)::ob):=oD (dC q2)<|oD (dE q1)<|oD (dI q4)<|oD (dI q3)<|oD (dE q0) k
theorem oDM{os:List nA}{ob:List Ob}(M:wA)(k:Oz os ob):Oz os (.data (zH qS M.parts)::.data (zH zP M.rl)::.data (zH zQ M.own)::.data (zH zQ M.args)::.data (zH zP M.l)::ob):=oDm M.l M.rl M.parts M.args M.own k
theorem fMa{n m:Nat}{q0 q1:List zX}{q2:List uK}{q3 q4:List Int}{l:List yG}(h:m<n)(k:∀X∈l,X.arg (λi=>i<n)):∀X∈qB q0 m q3 q4::qR q1 q2::l,X.arg (λi=>i<n):=xD ⟨⟨tv,dE _⟩,h,⟨tv,dI _⟩,⟨tv,dI _⟩,tv⟩ (xD ⟨⟨tv,dE _⟩,⟨tv,dC _⟩,tv⟩ k)
theorem fMf{n m:Nat}{q0 q1:List zX}{q2:List uK}{q3 q4:List Int}{l:List yG}(h:m<n)(k:∀X∈l,X.fine (λi=>i<n)):∀X∈qB q0 m q3 q4::qR q1 q2::l,X.fine (λi=>i<n):=xD ⟨dE _,h,dI _,dI _,tv⟩ (xD ⟨dE _,dC _,tv⟩ k)
abbrev yA:=List Tm
abbrev yH:=List Int
abbrev yB:=List zX
abbrev sI:=List uK
mutual def zKA:Nat->Tm->Int->Option (Int)|0,_,_=>none|c+1,a,d=>fV c a (yJ (d+1)) 0 def fV:Nat->Tm->Int->Int->Option (Int)
 |0,_,_,_=>none|c+1,a,e,b=>if decide (b<(a.sub.length:Int))then zO a.sub b>>=λx2=>if decide (e>8192)then some e else zKA c x2 e>>=λr5=>fV c a r5 (yJ (b+1))else some e end
theorem zEq:∀c:Nat,(∀a d,Cz (zKA c a d) 297 [] [yL a,ai d] (λr=>ai r) (λ_=>[]) 0)/\(∀a e b,Lz (fV c a e b) 0 f297 (pt 4021 f297) (λj=>sp j 23 0 [(1,ai e),(10,zC zA a.sub .no),(11,ai (a.sub.length:Int)),(12,ai b)]) ⟨[],0,[],0,[]⟩ (λr=>ai r) (λ_=>[]) 0 [.blk 0,.seq (pt 63 f297)]):=xF ⟨λ_ _=>cN,λ_ _ _=>lN⟩ λc ih=>⟨λa d=>fw func297<|fH 3 [] [] [] [1,10,11,12] (ih.2 _ _ _),λa e b=>lw λ_=>rB 0 (rA 0 (xA (o:=.no)) λ_=>rB 2 (lE 0)<|rC 1 [] (ih.1 _ _) λ_=>lH 1 [] [] [] [1,10,11,12] (ih.2 _ _ _))<|lE 0⟩
theorem zZU{c a d}:Cz (zKA c a d) 297 [] [yL a,ai d] (λr=>ai r) (λ_=>[]) 0:=(zEq _).1 _ _
def zNk(b:Nat)(a:Tm):Option (Int):=zKA b a 0>>=λr1=>some r1
theorem zXJ{b a}:Cz (zNk b a) 257 [] [yL a] (λr=>ai r) (λ_=>[]) 0:=fw func257<|rC 1 [] zZU λ_=>fE 0
mutual def zKB:Nat->Tm->Int->Option (Int)
 |0,_,_=>none|d+1,b,a=>if decide (a>128)then some a else fX d b a 0 a def fX:Nat->Tm->Int->Int->Int->Option (Int)
 |0,_,_,_,_=>none|d+1,b,a,c,e=>if decide (c<(b.sub.length:Int))then zO b.sub c>>=λx3=>zKB d x3 (yJ (a+1))>>=λr5=>fX d b a (yJ (c+1)) (mN e r5)else some e end
theorem zEp:∀d:Nat,(∀b a,Cz (zKB d b a) 258 [] [yL b,ai a] (λr=>ai r) (λ_=>[]) 0)/\(∀b a c e,Lz (fX d b a c e) 0 f258 (pt 16309 f258) (λj=>sp j 27 0 [(1,ai a),(5,ai e),(13,zC zA b.sub .no),(14,ai (b.sub.length:Int)),(15,ai c)]) ⟨[],0,[],0,[]⟩ (λr=>ai r) (λ_=>[]) 0 [.blk 0,.seq (pt 255 f258)]):=xF ⟨λ_ _=>cN,λ_ _ _ _=>lN⟩ λd ih=>⟨λb a=>fw func258<|rB 0 (fE 0)<|fH 2 [] [] [] [1,5,13,14,15] (ih.2 _ _ _ _),λb a c e=>lw λ_=>rB 0 (rA 0 (xA (o:=.no)) λ_=>rC 4 [] (ih.1 _ _) λ_=>lH 2 [] [] [] [1,5,13,14,15] (ih.2 _ _ _ _))<|lE 0⟩
theorem zZV{d b a}:Cz (zKB d b a) 258 [] [yL b,ai a] (λr=>ai r) (λ_=>[]) 0:=(zEp _).1 _ _
def zQK(b:Nat)(a:Tm):Option (Int):=zNk b a>>=λr1=>if decide (r1>8192)then some 129 else zKB b a 1>>=λr4=>some r4
theorem zZW{b a}:Cz (zQK b a) 210 [] [yL a] (λr=>ai r) (λ_=>[]) 0:=fw func210<|rC 1 [] zXJ λ_=>rB 0 (fE 0)<|rC 1 [] zZV λ_=>fE 0
def zQL(b:Nat)(a:Tm):Option (Bool):=if decide (a.k<1)then some false else if decide (a.k>8)then some false else zO ([0,0,0,2,2,2,0,1,0]:yH) a.k>>=λx3=>zO ([0,1048576,7,0,0,0,1048576,1048576,1048576]:yH) a.k>>=λx5=>if(a.sub.length:Int)==x3 then if decide (a.n>=0)then if decide (a.n<=x5)then if a.k !=7 then some true else zO a.sub 0>>=λx11=>some (x11.k==2)else some false else some false else some false
theorem zZX{b a}:Cz (zQL b a) 259 [] [yL a] (λr=>ab r) (λ_=>[]) 0:=fw func259<|rB 1 (fE 0)<|rB 1 (fE 0)<|rW (λh4=>oA 1 (zEr h4 rfl)) λ_=>rW (λh6=>oA 1 (zEr h6 rfl)) λ_=>rB 2 (rB 1 (rB 1 (rB 1 (fE 0)<|rA 1 (xA (o:=.no)) λ_=>fE 2)<|fE 0)<|fE 0)<|fE 0
mutual def zKC:Nat->Tm->Option (Bool)
 |0,_=>none|c+1,a=>zQL c a>>=λr1=>if r1 then fY c a 0 else some false def fY:Nat->Tm->Int->Option (Bool)
 |0,_,_=>none|c+1,a,b=>if decide (b<(a.sub.length:Int))then zO a.sub b>>=λx5=>zKC c x5>>=λr7=>if r7 then fY c a (yJ (b+1))else some false else some true end
theorem zEo:∀c:Nat,(∀a,Cz (zKC c a) 211 [] [yL a] (λr=>ab r) (λ_=>[]) 0)/\(∀a b,Lz (fY c a b) 0 f211 (pt 4021 f211) (λj=>sp j 19 0 [(9,zC zA a.sub .no),(10,ai (a.sub.length:Int)),(11,ai b)]) ⟨[],0,[],0,[]⟩ (λr=>ab r) (λ_=>[]) 0 [.blk 0,.seq (pt 63 f211)]):=xF ⟨λ_=>cN,λ_ _=>lN⟩ λc ih=>⟨λa=>fw func211<|rK 1 [] zZX (λ_=>fH 3 [] [] [] [9,10,11] (ih.2 _ _)) λ_=>fE 1,λa b=>lw λ_=>rB 0 (rA 0 (xA (o:=.no)) λ_=>rK 3 [] (ih.1 _) (λ_=>lH 2 [] [] [] [9,10,11] (ih.2 _ _)) λ_=>lE 1)<|lE 0⟩
theorem zZY{c a}:Cz (zKC c a) 211 [] [yL a] (λr=>ab r) (λ_=>[]) 0:=(zEo _).1 _
def qV(b:Nat)(a:Tm):Option (Bool):=zQK b a>>=λr1=>if decide (r1<=128)then zKC b a>>=λr4=>some r4 else some false
theorem pP{b a}:Cz (qV b a) 158 [] [yL a] (λr=>ab r) (λ_=>[]) 0:=fw func158<|rC 1 [] zZW λ_=>rB 0 (rC 1 [] zZY λ_=>fE 0)<|fE 0
mutual theorem zIL:∀(t:Tm)(h:Int),t.Ok->0<=h->h<=8192->zB (λq=>zKA q t h) (b8 t h)|.mk k n l,h,ho,h0,h1=>by refine zB.succ ?_;simp only[zKA];rw[zS (by omega) (by omega),b8];exact zEn l (.mk k n l) 0 (h+1) rfl ho.1 ho.2 (by omega) (by omega)theorem zEn:∀(l:List Tm)(p:Tm)(v:Nat)(h:Int),p.sub.drop v=l->p.sub.length<9223372036854775808->mU l->0<=h->h<=8193->zB (λq=>fV q p h (v:Int)) (szL l h)
 |[],p,v,h,hd,hl,ho,h0,h1=>by refine zB.succ ?_;simp only[fV];rw[szL];exact zB.ifF (yE hd) zB.ret|t::l,p,v,h,hd,hl,ho,h0,h1=>by
  refine zB.succ ?_;simp only[fV];refine zB.ifT (yD hd) (zB.pure (zY hd) ?_);rw[szL];by_cases h2:h>8192;·rw[if_pos h2];exact zB.ifT (by simpa using h2) zB.ret
  ·rw[if_neg h2];refine zB.ifF (by simpa using h2) ((zIL t h ho.1 h0 (by omega)).bind ?_);rw[zV v (by have:=yK hd;omega)];have:=zDR t h h0 (by omega);exact zEn l p (v+1) (b8 t h) (zR hd) hl ho.2 (by omega) (by omega)end
theorem zIM(t:Tm)(ho:t.Ok):zB (λq=>zNk q t) (b8 t 0):=by simp only[zNk];exact(zIL t 0 ho (by omega) (by omega)).bind zB.ret
mutual theorem zIN:∀(t:Tm)(a:Int),t.Ok->0<=a->a<=129->zB (λq=>zKB q t a) (dpT t a)
 |.mk k n l,a,ho,h0,h1=>by
  refine zB.succ ?_;simp only[zKB];rw[dpT];by_cases h2:a>128;·rw[if_pos h2];exact zB.ifT (by simpa using h2) zB.ret
  ·rw[if_neg h2];exact zB.ifF (by simpa using h2) (zEm l (.mk k n l) 0 a a rfl ho.1 ho.2 h0 (by omega))theorem zEm:∀(l:List Tm)(p:Tm)(v:Nat)(a m:Int),p.sub.drop v=l->p.sub.length<9223372036854775808->mU l->0<=a->a<=128->zB (λq=>fX q p a (v:Int) m) (dpL l a m)|[],p,v,a,m,hd,hl,ho,h0,h1=>by refine zB.succ ?_;simp only[fX];rw[dpL];exact zB.ifF (yE hd) zB.ret|t::l,p,v,a,m,hd,hl,ho,h0,h1=>by refine zB.succ ?_;simp only[fX];refine zB.ifT (yD hd) (zB.pure (zY hd) ?_);rw[dpL,zS (x:=a+1) (by omega) (by omega)];refine(zIN t (a+1) ho.1 (by omega) (by omega)).bind ?_;rw[zV v (by have:=yK hd;omega)];exact zEm l p (v+1) a _ (zR hd) hl ho.2 h0 h1 end
def zNj(t:Tm):Int:=if b8 t 0>8192 then 129 else dpT t 1
theorem zNi(t:Tm)(ho:t.Ok):zB (λq=>zQK q t) (zNj t):=by
 simp only[zQK];refine(zIM t ho).bind ?_;unfold zNj;by_cases h:b8 t 0>8192;·rw[if_pos h];exact zB.ifT (by simpa using h) zB.ret
 ·rw[if_neg h];exact zB.ifF (by simpa using h) ((zIN t 1 ho (by omega) (by omega)).bind zB.ret)
theorem zQM(t:Tm):zNj t<=128↔t.nodes<=8192/\t.high<=128:=by
 have h1:=zMD t 0 (by omega) (by omega);have h2:=zMF t 1 (by omega) (by omega);unfold zNj;by_cases h3:t.nodes<=8192
 ·rw[if_neg (by rw[h1.1 (by omega)];omega)];by_cases h4:t.high<=128;·rw[h2.1 (by omega)];omega
  ·rw[h2.2 (by omega)];omega
 ·rw[if_pos (by rw[h1.2 (by omega)];omega)];omega
theorem zQN(t:Tm):zB (λq=>zQL q t) (sB t):=by
 refine zB.mk λq=>?_;unfold zQL sB;generalize t.k=k;generalize t.n=n;generalize t.sub=l;by_cases h1:k<1;·rw[zUO (decide_eq_true h1)];simp;omega
 ·by_cases h2:k>8;·rw[zQA (decide_eq_false h1),zUO (decide_eq_true h2)];simp;omega
  ·rw[zQA (decide_eq_false h1),zQA (decide_eq_false h2)];have:k=1\/k=2\/k=3\/k=4\/k=5\/k=6\/k=7\/k=8:=by omega
   rcases this with rfl|rfl|rfl|rfl|rfl|rfl|rfl|rfl;case inr.inr.inr.inr.inr.inr.inl=>rcases l with _|⟨x,_|⟨y,l⟩⟩<;>simp[zO]<;>grind
   case inr.inr.inl|inr.inr.inr.inl|inr.inr.inr.inr.inl=>
    by_cases hl:l.length=2;·simp[zO,hl];grind
    ·have h':¬((l.length:Int)=2):=by omega
     simp[zO,hl,h']
   all_goals(simp[zO];grind)
mutual theorem zIO:∀(t:Tm),t.Ok->zB (λq=>zKC q t) (xP t)|.mk k n l,ho=>by refine zB.succ ?_;simp only[zKC];refine(zQN (.mk k n l)).bind ?_;rw[xP];cases sB (.mk k n l)with|false=>exact zB.ifF rfl zB.ret|true=>exact zB.ifT rfl (zEl l (.mk k n l) 0 rfl ho.1 ho.2)theorem zEl:∀(l:List Tm)(p:Tm)(v:Nat),p.sub.drop v=l->p.sub.length<9223372036854775808->mU l->zB (λq=>fY q p (v:Int)) (wT l)|[],p,v,hd,hl,ho=>by refine zB.succ ?_;simp only[fY];rw[wT];exact zB.ifF (yE hd) zB.ret|t::l,p,v,hd,hl,ho=>by refine zB.succ ?_;simp only[fY];refine zB.ifT (yD hd) (zB.pure (zY hd) ((zIO t ho.1).bind ?_));rw[wT];cases xP t with|false=>exact zB.ifF rfl zB.ret|true=>refine zB.ifT rfl ?_;rw[zV v (by have:=yK hd;omega)];exact zEl l p (v+1) (zR hd) hl ho.2 end
theorem xR(t:Tm)(ho:t.Ok):zB (λq=>qV q t) (zJ t):=by
 simp only[qV];refine(zNi t ho).bind ?_;have h:=zQM t;unfold zJ;by_cases h1:zNj t<=128
 ·refine zB.ifT (by simpa using h1) (((zIO t ho).bind zB.ret).eq ?_);have:=h.1 h1;simp[this.1,this.2]
 ·refine zB.ifF (by simpa using h1) (zB.ret.eq ?_);by_cases h2:t.nodes<=8192
  ·by_cases h3:t.high<=128;·exact absurd (h.2 ⟨h2,h3⟩) h1
   ·simp[h3]
  ·simp[h2]
def zQO(c:Nat)(a:Tm)(b:Int):Option (Int):=if b==1 then if a.k==3 then some 1 else if a.k==4 then some 1 else some 0 else some 0
theorem zZZ{c a b}:Cz (zQO c a b) 249 [] [yL a,ai b] (λr=>ai r) (λ_=>[]) 0:=fw func249<|rB 0 (rB 1 (fE 0)<|rB 1 (fE 0)<|fE 0)<|fE 0
mutual def zKD:Nat->Tm->Int->Option (Int)|0,_,_=>none|d+1,a,c=>if a.k==1 then some (mN 0 (yJ ((yJ (a.n+1))-c)))else fZ d a c 0 0 def fZ:Nat->Tm->Int->Int->Int->Option (Int)|0,_,_,_,_=>none|d+1,a,c,b,e=>if decide (b<(a.sub.length:Int))then zO a.sub b>>=λx3=>zQO d a b>>=λr5=>zKD d x3 (yJ (c+r5))>>=λr7=>fZ d a c (yJ (b+1)) (mN e r7)else some e end
theorem zEk:∀d:Nat,(∀a c,Cz (zKD d a c) 194 [] [yL a,ai c] (λr=>ai r) (λ_=>[]) 0)/\(∀a c b e,Lz (fZ d a c b e) 0 f194 (pt 16309 f194) (λj=>sp j 36 0 [(1,ai c),(2,.mp 0 0),(5,ai e),(18,zC zA a.sub .no),(19,ai (a.sub.length:Int)),(20,ai b)]) ⟨[(0,.cells [ai a.k,ai a.n,zC zA a.sub .no])],1,[],0,[]⟩ (λr=>ai r) (λ_=>[]) 0 [.blk 0,.seq (pt 255 f194)]):=xF ⟨λ_ _=>cN,λ_ _ _ _=>lN⟩ λd ih=>⟨λa c=>fw func194<|rB 1 (fE 4)<|fH 2 [] [0] [] [1,2,5,18,19,20] (ih.2 _ _ _ _),λa c b e=>lw λ_=>rB 0 (rA 0 (xA (o:=.no)) λ_=>rC 4 [] zZZ λ_=>rC 1 [] (ih.1 _ _) λ_=>lH 2 [] [0] [] [1,2,5,18,19,20] (ih.2 _ _ _ _))<|lE 0⟩
theorem yAz{d a c}:Cz (zKD d a c) 194 [] [yL a,ai c] (λr=>ai r) (λ_=>[]) 0:=(zEk _).1 _ _
mutual def zGM:Nat->Tm->Int->Int->Option yH|0,_,_,_=>none|e+1,a,b,c=>if a.k==b then yT 8 ([]:yH) [a.n]>>=λl2=>nK e a b c 0 l2 else if a.k==c then yT 8 ([]:yH) [a.n]>>=λl5=>nK e a b c 0 l5 else nK e a b c 0 []def nK:Nat->Tm->Int->Int->Int->yH->Option yH|0,_,_,_,_,_=>none|e+1,a,b,c,d,f=>if decide (d<(a.sub.length:Int))then zO a.sub d>>=λx5=>zGM e x5 b c>>=λr7=>yT 8 f r7>>=λl9=>nK e a b c (yJ (d+1)) l9 else some f end
theorem zEj:∀e:Nat,(∀a b c,Cz (zGM e a b c) 251 [] [yL a,ai b,ai c] (λr=>zC zQ r (.st 0 1)) (λ_=>[]) 1)/\(∀a b c d f,Lz (nK e a b c d f) 0 f251 (pt 16309 f251) (λj=>sp j 40 0 [(1,ai b),(2,ai c),(7,zC zQ f (.st 0 1)),(26,zC zA a.sub .no),(27,ai (a.sub.length:Int)),(28,ai d)]) ⟨[],0,[0],1,[]⟩ (λr=>zC zQ r (.st 0 1)) (λ_=>[]) 1 [.blk 0,.seq (pt 255 f251)]/\Lz (nK e a b c d f) 0 f251 (pt 16309 f251) (λj=>sp j 40 0 [(1,ai b),(2,ai c),(7,zC zQ f .nl),(26,zC zA a.sub .no),(27,ai (a.sub.length:Int)),(28,ai d)]) ⟨[],0,[],0,[]⟩ (λr=>zC zQ r (.st 0 1)) (λ_=>[]) 1 [.blk 0,.seq (pt 255 f251)]):=xF ⟨λ_ _ _=>cN,λ_ _ _ _ _=>⟨lN,lN⟩⟩ λe ih=>⟨λa b c=>fw func251<|rB 1 (rW (λh3=>oP 2 (sO h3 (by simp))) λ_=>fH 2 [] [] [0] [1,2,7,26,27,28] ((ih.2 _ _ _ _ _).1))<|rB 1 (rW (λh6=>oP 2 (sO h6 (by simp))) λ_=>fH 2 [] [] [0] [1,2,7,26,27,28] ((ih.2 _ _ _ _ _).1))<|fH 2 [] [] [] [1,2,7,26,27,28] ((ih.2 _ _ _ _ _).2),λa b c d f=>⟨lw λ_=>rB 0 (rA 0 (xA (o:=.no)) λ_=>rC 3 [] (ih.1 _ _ _) λr7=>rH λ_ h10=>rZ (List.length r7=0) (λh11=>rS (oP 0 (zNv h10 h11))<|lH 1 [] [] [0] [1,2,7,26,27,28] ((ih.2 _ _ _ _ _).1)) λh11=>rS (oP 0 (sO h10 h11))<|lH 1 [] [] [2] [1,2,7,26,27,28] ((ih.2 _ _ _ _ _).1))<|lG 0 [] [] [0] true,lw λ_=>rB 0 (rA 0 (xA (o:=.no)) λ_=>rC 3 [] (ih.1 _ _ _) λr7=>rH λ_ h10=>rZ (List.length r7=0) (λh11=>rS (oP 0 (zNv h10 h11))<|lH 1 [] [] [] [1,2,7,26,27,28] ((ih.2 _ _ _ _ _).2)) λh11=>rS (oP 0 (sO h10 h11))<|lH 1 [] [] [1] [1,2,7,26,27,28] ((ih.2 _ _ _ _ _).1))<|lG 0 [(none,6,1)] [] [0] true⟩⟩
theorem zXK{e a b c}:Cz (zGM e a b c) 251 [] [yL a,ai b,ai c] (λr=>zC zQ r (.st 0 1)) (λ_=>[]) 1:=(zEj _).1 _ _ _
def zKE(c:Nat)(a:Tm):Option yH:=(qV c a)>>=λr1=>if r1=true then(zGM c a 6 7)>>=λr4=>if decide (List.length r4<4611686018427387904)=true then some (vE r4)else none else some []
theorem zXL{c:Nat}{a:Tm}{r:yH}(h:zKE c a=some r):CT prog 195 [] [yL a] (.sl (zH zQ r) r.length .no) [] 0:=by
 unfold zKE at h;obtain⟨r1,h2,h⟩:=wM h;rcases zCp r1 with h3|h3
 ·replace h:=ifT h3 h;obtain⟨l,h5,h⟩:=wM h;rcases zCp (decide (List.length l<4611686018427387904))with h6|h6
  ·replace h:=ifT h6 h;replace h:=Option.some.inj h;subst h;subst h3;have hsz:List.length l<4611686018427387904:=by simpa using h6
   refine⟨?_,⟨⟨trivial,trivial,⟨trivial,dT _⟩,trivial⟩,trivial⟩,(λ_ h=>nomatch h),dI _,(λ_ h=>nomatch h)⟩;have k0:knd (sM f195)=1:=by kernel_rfl
   have k1:knd (rL (sM f195))=1:=by kernel_rfl
   have k2:knd (rL (rL (sM f195)))=1:=by kernel_rfl
   have k3:W9 (gI (rL (rL (sM f195))))=true:=by kernel_rfl
   have k4:zGF (uG (gI (rL (rL (sM f195)))))[2]?=some (some 8,250,#[.tmp 7]):=by kernel_rfl
   have k5:(f250.name=="runtime.NumGoroutine")=false:=by kernel_rfl
   have k6:f250.body.isNone=false:=by kernel_rfl
   have x1:qQ prog pM 3000 (.run (gI (sM f195))) [] ([yL a]++List.replicate (f195.ntmps-1) (.val undef)) (N5 []) []=some (.fin .normal,[yL a,.mp 0 0,.sl [] 0 .nl,.val undef,.val undef,.val undef,.val undef,.val undef,.val undef],⟨[(0,.cells (Q5 a))],1,[],0,[]⟩,[],[]):=by kernel_rfl
   have x2:qQ prog pM 3000 (.run (gI (rL (sM f195)))) [] [yL a,.mp 0 0,.sl [] 0 .nl,.val undef,.val undef,.val undef,.val undef,.val undef,.val undef] ⟨[(0,.cells (Q5 a))],1,[],0,[]⟩ [.no,.call [] [] 0 (ab true) (some true),.no]=some (.fin .normal,[yL a,.mp 0 0,.sl [] 0 .nl,yL a,ab true,ab false,.val undef,.val undef,.val undef],⟨[(0,.cells (Q5 a))],1,[],0,[]⟩,[],[.bit true true,.call 158 [] [yL a] (ab true) [] 0]):=by kernel_rfl
   have x3:(Q3 prog pM (uG (gI (rL (rL (sM f195))))) ((uG (gI (rL (rL (sM f195))))).toList.take 2) 0 [yL a,.mp 0 0,.sl [] 0 .nl,yL a,ab true,ab false,.val undef,.val undef,.val undef] ⟨[(0,.cells (Q5 a))],1,[],0,[]⟩ [.no,.call [] [] 1 (.sl (zH zQ l) l.length (.st 0 1)) none]).map Prod.snd=some ([yL a,.mp 0 0,.sl [] 0 .nl,yL a,ab true,ab false,yL a,.sl (zH zQ l) l.length (.st 0 1),.val undef],⟨[(0,.cells (Q5 a))],1,[0],1,[]⟩,[],[.call 251 [] [yL a,ai 6,ai 7] (.sl (zH zQ l) l.length (.st 0 1)) [] 1]):=by kernel_rfl
   have x4:∀j:Nat->Value,(Q3 prog pM (uG (gI (rL (rL (sM f195))))) ((uG (gI (rL (rL (sM f195))))).toList.drop 3) 3 (eset (tells [] (mutEnv [] j [yL a,.mp 0 0,.sl [] 0 .nl,yL a,ab true,ab false,yL a,.sl (zH zQ l) l.length (.st 0 1),.val undef] 0)) (some 8) (.sl (zH zQ (vE l)) (vE l).length .no)) (lS [] ⟨[(0,.cells (Q5 a))],1,[0],1,[]⟩) []).map Prod.snd=some ([.val (j 0),.val (j 1),.sl (zH zQ (vE l)) (vE l).length .no,.val (j 3),ab true,ab false,.val (j 6),.val (j 7),.sl (zH zQ (vE l)) (vE l).length .no],⟨[],1,[],0,[]⟩,[],[]):=λj=>by kernel_rfl
   have x5:∀j:Nat->Value,Q4 prog pM 0 f195 3000 (.run (rL (rL (rL (sM f195))))) [] [.val (j 0),.val (j 1),.sl (zH zQ (vE l)) (vE l).length .no,.val (j 3),ab true,ab false,.val (j 6),.val (j 7),.sl (zH zQ (vE l)) (vE l).length .no] ⟨[],1,[],0,[]⟩ [] [] [] [] false=some (.sl (zH zQ (vE l)) (vE l).length .no,[],[.data (zH zQ (vE l))]):=λj=>by kernel_rfl
   refine uE.body func195 (by kernel_rfl) ?_;refine Dv.seqP k0 ?_;refine nH (Q:=_) wL mixed 3000 (.run (gI (sM f195))) [] _ _ _ _ _ _ _ _ x1 yP.nil ?_;refine Dv.seqP k1 ?_;refine nH (Q:=_) wL mixed 3000 (.run (gI (rL (sM f195)))) [] _ _ _ _ _ _ _ _ x2 (yP.cons (zIc rfl) (yP.cons (J6 (pP _ h2)) yP.nil)) ?_;refine Dv.seqP k2 ?_;obtain⟨id,k7⟩:=zXn k3;rw[k7];refine Dv.mut wL (na:=(0:Nat)) rfl 2 [] [] _ x3 (yP.cons (J6 (zXK _ h5)) yP.nil) k4 func250 k5 k6 (λi X h=>by cases h) ?_ x4 yP.nil ?_;·intro G0 W hB G w hE hR u hu;refine(zAB hR (by rfl) hsz hu).mono ?_;rintro e w'⟨v,b,S,z1,z2,z3,z4,z5,z6⟩;exact⟨v,b,S,z1,z2,z3,z4,z5,λG' _ _ hS=>⟨z6 G' hS,λq hq=>by cases hq⟩⟩
   ·intro j;exact S2 (na:=(0:Nat)) wL mixed (x5 j) (yP.cons (W7 (dI _)) yP.nil) (by decide)
  ·replace h:=ifF h6 h;cases h
 ·replace h:=ifF h3 h;replace h:=Option.some.inj h;subst h;exact⟨uE.toFin wL mixed func195 (by kernel_rfl) 3000 [.no,.call [] [] 0 (ab r1) (some false),.no] [] [] [] false (by kernel_rfl) (yP.cons (zIc h3) (yP.cons (J6 (pP _ h2)) (yP.cons (W7 (dI ([]:yH))) yP.nil))) (by decide),⟨⟨trivial,trivial,⟨trivial,dT _⟩,trivial⟩,trivial⟩,(λ_ h=>nomatch h),dI _,(λ_ h=>nomatch h)⟩
theorem yAy{c:Nat}{a:Tm}:Cz (zKE c a) 195 [] [yL a] (λr=>.sl (zH zQ r) r.length .no) (λ_=>[]) 0:=λ_ h=>zXL h
def Y4(b:Nat)(a:Tm)(c d:Int):Option (Bool):=qV b a>>=λr1=>if r1 then zKD b a 0>>=λr4=>if decide (r4>c)then some false else zKE b a>>=λr7=>if(r7.length:Int)==0 then some true else zO r7 (yJ ((r7.length:Int)-1))>>=λx10=>some (decide (x10<d))else some false
theorem zGN{b a c d}:Cz (Y4 b a c d) 136 [] [yL a,ai c,ai d] (λr=>ab r) (λ_=>[]) 0:=fw func136<|rK 1 [] pP (λ_=>rC 2 [] yAz λ_=>rB 0 (fE 0)<|rC 1 [] yAy λ_=>rB 1 (fE 0)<|rA 2 (sS (o:=.no)) λ_=>fE 2) λ_=>fE 1
def zKF(c:Nat)(a:Tm):Option yH:=(qV c a)>>=λr1=>if r1=true then(zGM c a 8 8)>>=λr4=>if decide (List.length r4<4611686018427387904)=true then some (vE r4)else none else some []
theorem zXM{c:Nat}{a:Tm}{r:yH}(h:zKF c a=some r):CT prog 204 [] [yL a] (.sl (zH zQ r) r.length .no) [] 0:=by
 unfold zKF at h;obtain⟨r1,h2,h⟩:=wM h;rcases zCp r1 with h3|h3
 ·replace h:=ifT h3 h;obtain⟨l,h5,h⟩:=wM h;rcases zCp (decide (List.length l<4611686018427387904))with h6|h6
  ·replace h:=ifT h6 h;replace h:=Option.some.inj h;subst h;subst h3;have hsz:List.length l<4611686018427387904:=by simpa using h6
   refine⟨?_,⟨⟨trivial,trivial,⟨trivial,dT _⟩,trivial⟩,trivial⟩,(λ_ h=>nomatch h),dI _,(λ_ h=>nomatch h)⟩;have k0:knd (sM f204)=1:=by kernel_rfl
   have k1:knd (rL (sM f204))=1:=by kernel_rfl
   have k2:knd (rL (rL (sM f204)))=1:=by kernel_rfl
   have k3:W9 (gI (rL (rL (sM f204))))=true:=by kernel_rfl
   have k4:zGF (uG (gI (rL (rL (sM f204)))))[2]?=some (some 8,250,#[.tmp 7]):=by kernel_rfl
   have k5:(f250.name=="runtime.NumGoroutine")=false:=by kernel_rfl
   have k6:f250.body.isNone=false:=by kernel_rfl
   have x1:qQ prog pM 3000 (.run (gI (sM f204))) [] ([yL a]++List.replicate (f204.ntmps-1) (.val undef)) (N5 []) []=some (.fin .normal,[yL a,.mp 0 0,.sl [] 0 .nl,.val undef,.val undef,.val undef,.val undef,.val undef,.val undef],⟨[(0,.cells (Q5 a))],1,[],0,[]⟩,[],[]):=by kernel_rfl
   have x2:qQ prog pM 3000 (.run (gI (rL (sM f204)))) [] [yL a,.mp 0 0,.sl [] 0 .nl,.val undef,.val undef,.val undef,.val undef,.val undef,.val undef] ⟨[(0,.cells (Q5 a))],1,[],0,[]⟩ [.no,.call [] [] 0 (ab true) (some true),.no]=some (.fin .normal,[yL a,.mp 0 0,.sl [] 0 .nl,yL a,ab true,ab false,.val undef,.val undef,.val undef],⟨[(0,.cells (Q5 a))],1,[],0,[]⟩,[],[.bit true true,.call 158 [] [yL a] (ab true) [] 0]):=by kernel_rfl
   have x3:(Q3 prog pM (uG (gI (rL (rL (sM f204))))) ((uG (gI (rL (rL (sM f204))))).toList.take 2) 0 [yL a,.mp 0 0,.sl [] 0 .nl,yL a,ab true,ab false,.val undef,.val undef,.val undef] ⟨[(0,.cells (Q5 a))],1,[],0,[]⟩ [.no,.call [] [] 1 (.sl (zH zQ l) l.length (.st 0 1)) none]).map Prod.snd=some ([yL a,.mp 0 0,.sl [] 0 .nl,yL a,ab true,ab false,yL a,.sl (zH zQ l) l.length (.st 0 1),.val undef],⟨[(0,.cells (Q5 a))],1,[0],1,[]⟩,[],[.call 251 [] [yL a,ai 8,ai 8] (.sl (zH zQ l) l.length (.st 0 1)) [] 1]):=by kernel_rfl
   have x4:∀j:Nat->Value,(Q3 prog pM (uG (gI (rL (rL (sM f204))))) ((uG (gI (rL (rL (sM f204))))).toList.drop 3) 3 (eset (tells [] (mutEnv [] j [yL a,.mp 0 0,.sl [] 0 .nl,yL a,ab true,ab false,yL a,.sl (zH zQ l) l.length (.st 0 1),.val undef] 0)) (some 8) (.sl (zH zQ (vE l)) (vE l).length .no)) (lS [] ⟨[(0,.cells (Q5 a))],1,[0],1,[]⟩) []).map Prod.snd=some ([.val (j 0),.val (j 1),.sl (zH zQ (vE l)) (vE l).length .no,.val (j 3),ab true,ab false,.val (j 6),.val (j 7),.sl (zH zQ (vE l)) (vE l).length .no],⟨[],1,[],0,[]⟩,[],[]):=λj=>by kernel_rfl
   have x5:∀j:Nat->Value,Q4 prog pM 0 f204 3000 (.run (rL (rL (rL (sM f204))))) [] [.val (j 0),.val (j 1),.sl (zH zQ (vE l)) (vE l).length .no,.val (j 3),ab true,ab false,.val (j 6),.val (j 7),.sl (zH zQ (vE l)) (vE l).length .no] ⟨[],1,[],0,[]⟩ [] [] [] [] false=some (.sl (zH zQ (vE l)) (vE l).length .no,[],[.data (zH zQ (vE l))]):=λj=>by kernel_rfl
   refine uE.body func204 (by kernel_rfl) ?_;refine Dv.seqP k0 ?_;refine nH (Q:=_) wL mixed 3000 (.run (gI (sM f204))) [] _ _ _ _ _ _ _ _ x1 yP.nil ?_;refine Dv.seqP k1 ?_;refine nH (Q:=_) wL mixed 3000 (.run (gI (rL (sM f204)))) [] _ _ _ _ _ _ _ _ x2 (yP.cons (zIc rfl) (yP.cons (J6 (pP _ h2)) yP.nil)) ?_;refine Dv.seqP k2 ?_;obtain⟨id,k7⟩:=zXn k3;rw[k7];refine Dv.mut wL (na:=(0:Nat)) rfl 2 [] [] _ x3 (yP.cons (J6 (zXK _ h5)) yP.nil) k4 func250 k5 k6 (λi X h=>by cases h) ?_ x4 yP.nil ?_;·intro G0 W hB G w hE hR u hu;refine(zAB hR (by rfl) hsz hu).mono ?_;rintro e w'⟨v,b,S,z1,z2,z3,z4,z5,z6⟩;exact⟨v,b,S,z1,z2,z3,z4,z5,λG' _ _ hS=>⟨z6 G' hS,λq hq=>by cases hq⟩⟩
   ·intro j;exact S2 (na:=(0:Nat)) wL mixed (x5 j) (yP.cons (W7 (dI _)) yP.nil) (by decide)
  ·replace h:=ifF h6 h;cases h
 ·replace h:=ifF h3 h;replace h:=Option.some.inj h;subst h;exact⟨uE.toFin wL mixed func204 (by kernel_rfl) 3000 [.no,.call [] [] 0 (ab r1) (some false),.no] [] [] [] false (by kernel_rfl) (yP.cons (zIc h3) (yP.cons (J6 (pP _ h2)) (yP.cons (W7 (dI ([]:yH))) yP.nil))) (by decide),⟨⟨trivial,trivial,⟨trivial,dT _⟩,trivial⟩,trivial⟩,(λ_ h=>nomatch h),dI _,(λ_ h=>nomatch h)⟩
theorem yAx{c:Nat}{a:Tm}:Cz (zKF c a) 204 [] [yL a] (λr=>.sl (zH zQ r) r.length .no) (λ_=>[]) 0:=λ_ h=>zXM h
theorem zCm(a b:Int):mN a b=max a b:=by unfold mN;split<;>omega
theorem wU{k n:Int}{l:List Tm}(h:xP (.mk k n l)=true):sB (.mk k n l)=true/\wT l=true:=by rw[xP]at h;simpa using h
theorem wV{t:Tm}{l:List Tm}(h:wT (t::l)=true):xP t=true/\wT l=true:=by rw[wT]at h;simpa using h
theorem mC{k n:Int}{l:List Tm}(h:sB (.mk k n l)=true):0<=n/\n<=1048576/\1<=k/\k<=8/\l.length<=2:=by have:=tR h;exact⟨this.2.2.1,this.2.2.2.1,this.1,this.2.1,this.2.2.2.2.1⟩
mutual theorem wR:∀t:Tm,xP t=true->t.Ok|.mk k n l,h=>by have h1:=wU h;rw[Tm.Ok];exact⟨by have:=(mC h1.1).2.2.2.2;omega,zEi l h1.2⟩theorem zEi:∀l:List Tm,wT l=true->mU l|[],_=>by rw[mU];trivial|t::l,h=>by have:=wV h;rw[mU];exact⟨wR t this.1,zEi l this.2⟩end
mutual theorem zQP:∀(t:Tm)(b:Int),0<=C7 t b
 |.mk k n l,b=>by
  rw[C7];split;·omega
  ·exact zCl l k 0 b theorem zCl:∀(l:List Tm)(k:Int)(i:Nat)(b:Int),0<=cF l k i b|[],k,i,b=>by rw[cF];omega|t::l,k,i,b=>by rw[cF];have:=zQP t (b+C6 k i);omega end
theorem zNh(t:Tm)(i:Nat):zB (λq=>zQO q t (i:Int)) (C6 t.k i):=by
 refine zB.mk λq=>?_;simp only[zQO,C6];by_cases h1:i=1;·subst h1;simp;by_cases h3:t.k=3<;>by_cases h4:t.k=4<;>simp[h3,h4]
 ·have:¬((i:Int)=1):=by omega
  simp[h1,this]
theorem zCk(k:Int)(i:Nat):0<=C6 k i/\C6 k i<=1:=by unfold C6;split<;>omega
mutual theorem zEh:∀(t:Tm)(b:Int),xP t=true->0<=b->b+t.high<=4611686018427387904->zB (λq=>zKD q t b) (C7 t b)
 |.mk k n l,b,hg,h0,h1=>by
  refine zB.succ ?_;simp only[zKD,Tm.k,Tm.n];have hh:=wU hg;have hn:=mC hh.1;rw[C7];by_cases hk:k=1
  ·rw[if_pos hk];rw[Tm.high]at h1;refine zB.ifT (by simpa using hk) (zB.ret.eq ?_);rw[zS (x:=n+1) (by omega) (by omega),zS (by omega) (by omega),zCm]
  ·rw[if_neg hk];refine zB.ifF (by simpa using hk) ?_;rw[Tm.high]at h1;exact(zAG l (.mk k n l) 0 b 0 rfl (by have:=hn.2.2.2.2;simp only[Tm.sub];omega) hh.2 h0 (by omega) (by omega)).eq (by have:=zCl l k 0 b;simp only[Tm.k];omega)theorem zAG:∀(l:List Tm)(p:Tm)(v:Nat)(b m:Int),p.sub.drop v=l->p.sub.length<9223372036854775808->wT l=true->0<=b->0<=m->b+1+vC l<=4611686018427387904->zB (λq=>fZ q p b (v:Int) m) (max m (cF l p.k v b))|[],p,v,b,m,hd,hl,ho,h0,hm,h1=>by refine zB.succ ?_;simp only[fZ];rw[cF];exact zB.ifF (yE hd) (zB.ret.eq (by omega))|t::l,p,v,b,m,hd,hl,ho,h0,hm,h1=>by refine zB.succ ?_;simp only[fZ];have hg:=wV ho;have hu:=zCk p.k v;rw[vC]at h1;refine zB.ifT (yD hd) (zB.pure (zY hd) ((zNh p v).bind ?_));rw[zS (x:=b+C6 p.k v) (by omega) (by omega)];refine(zEh t (b+C6 p.k v) hg.1 (by omega) (by omega)).bind ?_;rw[zV v (by have:=yK hd;omega),zCm];refine(zAG l p (v+1) b _ (zR hd) hl hg.2 h0 (by omega) (by omega)).eq ?_;rw[cF];omega end
mutual theorem D7:∀(t:Tm)(a b:Int),(lR t a b).length<=t.nodes|.mk k n l,a,b=>by rw[lR,Tm.nodes];have:=zEg l a b;split<;>simp<;>omega theorem zEg:∀(l:List Tm)(a b:Int),(C8 l a b).length<=yR l|[],a,b=>by rw[C8,yR];simp|t::l,a,b=>by rw[C8,yR];have:=D7 t a b;have:=zEg l a b;simp;omega end
mutual theorem aJ:∀(t:Tm)(a b:Int),t.Ok->t.nodes<=8192->zB (λq=>zGM q t a b) (lR t a b)
 |.mk k n l,a,b,ho,hn=>by
  refine zB.succ ?_;simp only[zGM,Tm.k,Tm.n];rw[lR];rw[Tm.nodes]at hn;by_cases ha:k=a
  ·refine zB.ifT (by simpa using ha) (zB.pure (zW (by simp)) ?_);rw[if_pos (.inl ha)];exact mW l (.mk k n l) 0 a b [n] rfl ho.1 ho.2 (by simp;omega)
  ·refine zB.ifF (by simpa using ha) ?_;by_cases hb:k=b;·refine zB.ifT (by simpa using hb) (zB.pure (zW (by simp)) ?_);rw[if_pos (.inr hb)];exact mW l (.mk k n l) 0 a b [n] rfl ho.1 ho.2 (by simp;omega)
   ·refine zB.ifF (by simpa using hb) ?_;rw[if_neg (by simp[ha,hb])];exact mW l (.mk k n l) 0 a b [] rfl ho.1 ho.2 (by simp;omega)theorem mW:∀(l:List Tm)(p:Tm)(v:Nat)(a b:Int)(m:List Int),p.sub.drop v=l->p.sub.length<9223372036854775808->mU l->m.length+yR l<=8192->zB (λq=>nK q p a b (v:Int) m) (m++C8 l a b)|[],p,v,a,b,m,hd,hl,ho,hn=>by refine zB.succ ?_;simp only[nK];rw[C8];exact zB.ifF (yE hd) (zB.ret.eq (by simp))|t::l,p,v,a,b,m,hd,hl,ho,hn=>by refine zB.succ ?_;simp only[nK];rw[yR]at hn;have hc:=D7 t a b;refine zB.ifT (yD hd) (zB.pure (zY hd) ((aJ t a b ho.1 (by omega)).bind (zB.pure (zW (by omega)) ?_)));rw[zV v (by have:=yK hd;omega)];refine(mW l p (v+1) a b _ (zR hd) hl ho.2 (by simp;omega)).eq ?_;rw[C8];simp end
theorem zK{t:Tm}(h:zJ t=true):t.nodes<=8192/\t.high<=128/\xP t=true:=by unfold zJ at h;simp at h;exact⟨h.1.1,h.1.2,h.2⟩
def zAH(t:Tm)(a b:Int):List Int:=if zJ t=true then vE (lR t a b)else[]
theorem zNg(t:Tm)(ho:t.Ok):zB (λq=>zKF q t) (zAH t 8 8):=by
 simp only[zKF];refine(xR t ho).bind ?_;unfold zAH;by_cases h:zJ t=true;·have hs:=zK h;have:=D7 t 8 8;rw[if_pos h];refine zB.ifT h ((aJ t 8 8 ho hs.1).bind (zB.mk λq=>?_));rw[if_pos (by simp;omega)]
 ·rw[if_neg h];exact zB.ifF (by simpa using h) zB.ret
theorem zGO(t:Tm)(ho:t.Ok):zB (λq=>zKE q t) (zAH t 6 7):=by
 simp only[zKE];refine(xR t ho).bind ?_;unfold zAH;by_cases h:zJ t=true;·have hs:=zK h;have:=D7 t 6 7;rw[if_pos h];refine zB.ifT h ((aJ t 6 7 ho hs.1).bind (zB.mk λq=>?_));rw[if_pos (by simp;omega)]
 ·rw[if_neg h];exact zB.ifF (by simpa using h) zB.ret
theorem Y5(x:Int):∀l:List Int,x∈oH l↔x∈l
 |[]=>by simp[oH]|[y]=>by simp[oH]|y::z::l=>by
  rw[pN];have:=Y5 x (z::l);split;·subst_vars;rw[this];simp
  ·rw[List.mem_cons,this];simp
theorem D8(x:Int)(l:List Int):x∈vE l↔x∈l:=by unfold vE;rw[Y5];exact(jM l).mem_iff
theorem O6:∀l:List Int,l.Pairwise (·<=·)->(oH l).Pairwise (·<=·)
 |[],_=>by simp[oH]|[y],_=>by simp[oH]|y::z::l,h=>by
  rw[pN];have h2:=O6 (z::l) (List.pairwise_cons.1 h).2;split;·exact h2
  ·refine List.pairwise_cons.2 ⟨λw hw=>?_,h2⟩;exact(List.pairwise_cons.1 h).1 w ((Y5 w _).1 hw)
theorem zEf(l:List Int):(vE l).Pairwise (·<=·):=O6 _ (jN l)
theorem zEe:∀(l:List Int)(h:l≠[]),l.Pairwise (·<=·)->∀x∈l,x<=l.getLast h
 |[y],_,_,x,hx=>by simp at hx;simp[hx]|y::z::l,_,hp,x,hx=>by
  rw[List.getLast_cons (by simp)];have h2:=List.pairwise_cons.1 hp;rcases List.mem_cons.1 hx with rfl|hx;·exact h2.1 _ (List.getLast_mem _)
  ·exact zEe (z::l) (by simp) h2.2 x hx
def qW(t:Tm)(f n:Int):Bool:=zJ t&&decide (C7 t 0<=f)&&(lR t 6 7).all λx=>decide (x<n)
theorem mD(t:Tm)(f n:Int)(ho:t.Ok):zB (λq=>Y4 q t f n) (qW t f n):=by
 simp only[Y4];refine(xR t ho).bind ?_;unfold qW;by_cases h:zJ t=true
 ·have hs:=zK h;have hlen:=D7 t 6 7;refine zB.ifT h ((zEh t 0 hs.2.2 (by omega) (by omega)).bind ?_);rw[h];by_cases h2:C7 t 0>f;·exact zB.ifT (by simpa using h2) (zB.ret.eq (by simp;omega))
  ·refine zB.ifF (by simpa using h2) ((zGO t ho).bind ?_);have h2':decide (C7 t 0<=f)=true:=by simp;omega
   rw[h2'];unfold zAH;rw[if_pos h];have hr:=X2 (lR t 6 7);by_cases h3:vE (lR t 6 7)=[]
   ·refine zB.ifT (by rw[h3];rfl) (zB.ret.eq ?_);symm;simp only[Bool.true_and,List.all_eq_true];intro x hx;rw[<-D8,h3]at hx;cases hx
   ·have hpos:0<(vE (lR t 6 7)).length:=List.length_pos_iff.2 h3;refine zB.ifF (by simp;omega) (zB.pure (a:=(vE (lR t 6 7)).getLast h3) ?_ (zB.ret.eq ?_))
    ·rw[zS (by omega) (by omega)];unfold zO;rw[if_pos (by omega),List.getLast_eq_getElem,show((vE (lR t 6 7)).length-1:Int).toNat=(vE (lR t 6 7)).length-1 by omega];exact List.getElem?_eq_getElem _
    ·have hm:=zEe _ h3 (zEf _);rw[Bool.eq_iff_iff];simp only[decide_eq_true_eq,Bool.true_and,List.all_eq_true];constructor
     ·intro h4 x hx;have:=hm x ((D8 x _).2 hx);omega
     ·intro h4;exact h4 _ ((D8 _ _).1 (List.getLast_mem h3))
 ·exact zB.ifF (by simpa using h) (zB.ret.eq (by simp[h]))
def tB:Nat->yA->Int->Int->yA->Option yA|0,_,_,_,_=>none|f+1,e,g,m,d=>if decide (g<m)then mO e.length m>>=λx2=>zO d (x2:Int)>>=λx4=>mO e.length g>>=λx6=>zO d (x6:Int)>>=λx8=>cG d x6 x4>>=λx10=>cG x10 x2 x8>>=λx12=>tB f e (yJ (g+1)) (yJ (m-1)) x12 else some d
def mE(f:Nat)(e:yA):Option yA:=tB f e 0 (yJ ((e.length:Int)-1)) e
theorem zEd:∀f:Nat,∀e g m d,Lz (tB f e g m d) 1 f167 (pt 53 f167) (λj=>sp j 28 0 [(0,.ms 0 0 e.length e.length 3),(2,ai g),(3,ai m)]) ⟨[(0,.row (zH zA d))],1,[],0,[]⟩ (λ_=>.tup []) (λr=>[.row (zH zA r)]) 0 [.blk 0]:=xF (λ_ _ _ _=>lN) λf ih=>λe g m d=>lw λ_=>rB 0 (rH λ_ h3=>rS (oA 0 (zII (b:=0) (c:=List.length e) (z:=3) h3))<|rH λx4 h5=>rS (oG (a:=(.agg [ai x4.k,ai x4.n,zC zA x4.sub .no])) 0 (ldE tV h5 (true,3) (val:=.agg [ai x4.k,ai x4.n,zC zA x4.sub .no]) (by rw[xH];rfl)))<|rH λ_ h7=>rS (oA 0 (zII (b:=0) (c:=List.length e) (z:=3) h7))<|rH λx8 h9=>rS (oG (a:=(.agg [ai x8.k,ai x8.n,zC zA x8.sub .no])) 0 (ldE tV h9 (true,3) (val:=.agg [ai x8.k,ai x8.n,zC zA x8.sub .no]) (by rw[xH];rfl)))<|rS (oA 0 (zII (b:=0) (c:=List.length e) (z:=3) h7))<|rW (λh11=>oW 0 (wtE (x:=x4) (cs:=[ai x4.k,ai x4.n,zC zA x4.sub .no]) tV (by rw[xH];rfl) h11)) λ_=>rS (oA 0 (zII (b:=0) (c:=List.length e) (z:=3) h3))<|rW (λh13=>oW 0 (wtE (x:=x8) (cs:=[ai x8.k,ai x8.n,zC zA x8.sub .no]) tV (by rw[xH];rfl) h13)) λ_=>lH 2 [] [0] [] [0,2,3] (ih _ _ _ _))<|lE 0
theorem Y6{f e}:Cz (mE f e) 167 [.row (zH zA e)] [.ms 0 0 e.length e.length 3] (λ_=>.tup []) (λr=>[.row (zH zA r)]) 0:=fw func167<|fH 2 [] [0] [] [0,2,3] (zEd _ _ _ _ _)
def uL:Nat->Tm->yA->Int->Int->yA->Option ((Tm×yA)⊕(yA×Tm))|0,_,_,_,_,_=>none|f+1,d,a,c,e,b=>if c==5 then if(b.length:Int)==2 then if decide ((a.length:Int)>=8192)then some (Sum.inl (d,[]))else zO b 1>>=λx4=>yT 40 a [x4]>>=λl6=>zO b 0>>=λx8=>uL f d l6 x8.k x8.n x8.sub else mE f a>>=λr10=>gfz a.length r10>>=λl12=>some (Sum.inr (l12,(Tm.mk c e b)))else mE f a>>=λr14=>gfz a.length r14>>=λl16=>some (Sum.inr (l16,(Tm.mk c e b)))
def aK(f:Nat)(d:Tm):Option ((Tm×yA)⊕(yA×Tm)):=uL f d ([]:yA) d.k d.n d.sub
def Y7(j:Nat->Value)(d:Tm)(a:yA)(c e:Int)(b:yA):=sp j 35 0 [(1,.mp 0 0),(2,.mp 1 0),(4,.ms 2 0 a.length a.length 3),(5,.mp 3 0)]
def Y8(d:Tm)(a:yA)(c e:Int)(b:yA):yN:=⟨[(0,.cells [ai d.k,ai d.n,zC zA d.sub .no]),(1,.cells [ai 0,ai 0,.ms 4 0 (List.length ([]:yA)) (List.length ([]:yA)) 3]),(2,.row (zH zA a)),(3,.cells [ai c,ai e,zC zA b .no]),(4,.row (zH zA ([]:yA)))],5,[],0,[]⟩
abbrev Y9(d:Tm)(r:Tm×yA)(C:Cf):Prop:=C 102 [] [yL d] (.tup [yL r.1,.sl (zH zA r.2) r.2.length .no]) [] 0
abbrev Z0(d:Tm)(r:yA×Tm)(C:Cf):Prop:=C 102 [] [yL d] (.tup [yL r.2,.ms 0 0 r.1.length r.1.length 3]) [.row (zH zA r.1)] 0
theorem zNf:Qf 102 f102:=⟨func102,by kernel_rfl⟩
theorem zNe{d r}(h:Y9 d r Ci):Y9 d r Ct:=⟨h,⟨⟨tv,tv,⟨tv,dT _⟩,tv⟩,tv⟩,xC,⟨⟨tv,tv,dT _,tv⟩,dT _,tv⟩,xC⟩
theorem zNd{d r}(h:Z0 d r Ci):Z0 d r Ct:=⟨h,⟨⟨tv,tv,⟨tv,dT _⟩,tv⟩,tv⟩,xC,⟨⟨tv,tv,dT _,tv⟩,(lz rfl),tv⟩,(xD (dT _) xC)⟩
theorem D9:∀f:Nat,(∀d a c e b r,uL f d a c e b=some r->(∀j,Dl prog 0 (pt 4069 f102) (Y7 j d a c e b) (Y8 d a c e b) (wC prog 0 ((match(generalizing:=false)r with|Sum.inl x=>jK prog 0 f102 (.tup [yL x.1,.sl (zH zA x.2) x.2.length .no]) [] 0|Sum.inr x=>jK prog 0 f102 (.tup [yL x.2,.ms 0 0 x.1.length x.1.length 3]) [.row (zH zA x.1)] 0)) [.blk 0,.seq (pt 255 f102)]))):=by intro f;induction f with|zero=>exactλ_ _ _ _ _ _ h=>nn h|succ f ih=>
 intro d a c e b r h;rw[uL]at h;rcases spl h with⟨h1,h⟩|⟨h1,h⟩;have k:=oB 1 h1 o0;rcases spl h with⟨h2,h⟩|⟨h2,h⟩;have k:=oB 2 h2 k;rcases spl h with⟨h3,h⟩|⟨h3,h⟩;obtain rfl:=sj h;exactλj=>olF 2 [] (oD (dT ([]:yA))<|oD (dT d.sub)<|oB 1 h3 k);obtain⟨x4,h5,h⟩:=wM h;obtain⟨l6,h7,h⟩:=wM h;obtain⟨x8,h9,h⟩:=wM h;exactλj=>olH 2 [] [0,1,5,3,4] [] [1,2,4,5] (oD (dT ([]:yA))<|oD (dT x8.sub)<|oD (dT l6)<|oD (dT d.sub)<|oA 1 (xA (o:=.no) h9)<|oM 0 (zXD h7 (by simp))<|oS 1 (yU xH [x4])<|oA 1 (xA (o:=.no) h5)<|oB 1 h3 k) (ih _ _ _ _ _ _ h);obtain⟨r10,h11,h⟩:=wM h;obtain⟨l12,h13,h⟩:=wM h;obtain⟨h13a,h13b⟩:=gM h13;obtain rfl:=sj h;obtain rfl:=h13a.symm;try dsimp only
 rw[<-h13b];exactλj=>olF 2 [2] (oD (dT b)<|oD (dT r10)<|oC 0 [2] (Y6 _ h11)<|oB 2 h2 k);obtain⟨r14,h15,h⟩:=wM h;obtain⟨l16,h17,h⟩:=wM h;obtain⟨h17a,h17b⟩:=gM h17;obtain rfl:=sj h;obtain rfl:=h17a.symm;try dsimp only
 rw[<-h17b];exactλj=>olF 2 [2] (oD (dT b)<|oD (dT r14)<|oC 0 [2] (Y6 _ h15)<|oB 1 h1 o0)
theorem zQQ{f d r}(h:aK f d=some r):(match(generalizing:=false)r with|Sum.inl x=>Y9 d x Ct|Sum.inr x=>Z0 d x Ct):=by unfold aK at h;rcases r with y0|y1;exact zNe (tH zNf 2 [(none,4,4099),(some 1,2,4099)] [0,1,3,2,4] [] [1,2,4,5] (oD (dT ([]:yA))<|oD (dT d.sub)<|oD (dT ([]:yA))<|oD (dT d.sub) o0) (D9 _ _ _ _ _ _ _ h));exact zNd (tH zNf 2 [(none,4,4099),(some 1,2,4099)] [0,1,3,2,4] [] [1,2,4,5] (oD (dT ([]:yA))<|oD (dT d.sub)<|oD (dT ([]:yA))<|oD (dT d.sub) o0) (D9 _ _ _ _ _ _ _ h))
theorem zQR{f d r}(h:aK f d=some r):(match(generalizing:=false)r with|Sum.inl x=>CT prog 102 [] [yL d] (.tup [yL x.1,.sl (zH zA x.2) x.2.length .no]) [] 0|Sum.inr x=>CT prog 102 [] [yL d] (.tup [yL x.2,.sl (zH zA x.1) x.1.length .no]) [] 0):=by
 have k:=zQQ h;rcases r with y0|y1;·exact k
 ·exact CT.freeze (H1:=[]) (cs:=zH zA y1.1) (res':=(.tup [yL y1.2,.sl (zH zA y1.1) y1.1.length .no])) k (Nat.le_of_ble_eq_true rfl) xC (dT _) ⟨⟨trivial,trivial,dT _,tv⟩,(.inl ⟨rfl,rfl⟩),tv⟩ (by rfl) rfl
theorem zUY{f d}:Cz (aK f d) 102 [] [yL d] (Sum.elim (λx=>.tup [yL x.1,.sl (zH zA x.2) x.2.length .no]) (λx=>.tup [yL x.2,.sl (zH zA x.1) x.1.length .no])) (Sum.elim (λ_=>[]) (λ_=>[])) 0:=λr h=>by have k:=zQR h;rcases r with _|_<;>exact k
def E0(b:Nat)(a:Tm):Option (Tm×yA):=aK b a>>=λx=>some (Sum.elim id (λy=>(y.2,y.1)) x)
theorem zXN{b:Nat}{a:Tm}{r:Tm×yA}(h:E0 b a=some r):CT prog 102 [] [yL a] (.tup [yL r.1,.sl (zH zA r.2) r.2.length .no]) [] 0:=by obtain⟨x,h1,h⟩:=wM h;obtain rfl:=sj h;rcases x with y|y<;>exact zUY _ h1
theorem zGP{b:Nat}{a:Tm}:Cz (E0 b a) 102 [] [yL a] (λr=>.tup [yL r.1,.sl (zH zA r.2) r.2.length .no]) (λ_=>[]) 0:=λ_ h=>zXN h
def zEc(d:Nat)(a b:Int)(c:yA):Option (Tm):=some (Tm.mk a b c)
theorem zGQ{d a b c}:Cz (zEc d a b c) 188 [] [ai a,ai b,zC zA c .no] (λr=>yL r) (λ_=>[]) 0:=fw func188<|fE 1
def kI(c:Nat)(a b:Tm):Option (Tm):=zEc c 5 0 [a,b]>>=λr1=>some r1
theorem nL{c a b}:Cz (kI c a b) 131 [] [yL a,yL b] (λr=>yL r) (λ_=>[]) 0:=fw func131<|rS (oS 2 (yU xH [a,b]))<|rC 0 [] zGQ λ_=>fE 1
mutual def zKG:Nat->Tm->Option (Tm)|0,_=>none|d+1,b=>eA d b 0 []def eA:Nat->Tm->Int->yA->Option (Tm)|0,_,_,_=>none|d+1,b,c,a=>if decide (c<(b.sub.length:Int))then zO b.sub c>>=λx2=>zKG d x2>>=λr4=>yT 40 a [r4]>>=λl6=>eA d b (yJ (c+1)) l6 else some (Tm.mk b.k b.n a)end
theorem zEb:∀d:Nat,(∀b,Cz (zKG d b) 162 [] [yL b] (λr=>yL r) (λ_=>[]) 0)/\(∀b c a,Lz (eA d b c a) 0 f162 (pt 4021 f162) (λj=>sp j 27 0 [(2,.mp 0 0),(3,.mp 1 0),(12,zC zA b.sub .no),(13,ai (b.sub.length:Int)),(14,ai c)]) ⟨[(0,.cells [ai 0,ai 0,zC zA ([]:yA) .nl]),(1,.cells [ai b.k,ai b.n,zC zA a (.st 0 3)])],2,[0],1,[]⟩ (λr=>yL r) (λ_=>[]) 0 [.blk 0,.seq (pt 63 f162)]):=xF ⟨λ_=>cN,λ_ _ _=>lN⟩ λd ih=>⟨λb=>fw func162<|fH 5 [(some 2,2,3)] [1,2] [0] [2,3,12,13,14] (ih.2 _ _ _),λb c a=>lw λ_=>rB 0 (rA 0 (xA (o:=.no)) λ_=>rS (b9 2)<|rC 1 [] (ih.1 _) λr4=>rS (oS 0 (yU xH [r4]))<|rW (λh7=>oP 0 (xY h7 (by simp))) λ_=>lH 2 [] [0,1] [1] [2,3,12,13,14] (ih.2 _ _ _))<|lE 2⟩
theorem yAw{d b}:Cz (zKG d b) 162 [] [yL b] (λr=>yL r) (λ_=>[]) 0:=(zEb _).1 _
def eB:Nat->yA->Int->Int->Int->yA->Option (Tm)|0,_,_,_,_,_=>none|e+1,d,f,a,b,c=>if decide (f<(d.length:Int))then zO d f>>=λx2=>kI e (Tm.mk a b c) x2>>=λr4=>eB e d (yJ (f+1)) r4.k r4.n r4.sub else some (Tm.mk a b c)
def nM(e:Nat)(g:Tm)(d:yA):Option (Tm):=eB e d 0 g.k g.n g.sub
theorem zQS:∀e:Nat,∀d f a b c,Lz (eB e d f a b c) 0 f189 (pt 949 f189) (λj=>sp j 18 0 [(2,.mp 0 0),(4,.mp 1 0),(7,zC zA d .no),(8,ai (d.length:Int)),(9,ai f)]) ⟨[(0,.cells [ai a,ai b,zC zA c .no]),(1,.cells [ai 0,ai 0,zC zA ([]:yA) .nl])],2,[],0,[]⟩ (λr=>yL r) (λ_=>[]) 0 [.blk 0,.seq (pt 15 f189)]:=xF (λ_ _ _ _ _=>lN) λe ih=>λd f a b c=>lw λ_=>rB 0 (rA 0 (xA (o:=.no)) λ_=>rC 4 [] nL λ_=>lH 2 [] [0,1] [] [2,4,7,8,9] (ih _ _ _ _ _))<|lE 2
theorem oI{e g d}:Cz (nM e g d) 189 [] [yL g,zC zA d .no] (λr=>yL r) (λ_=>[]) 0:=fw func189<|fH 1 [] [0,1] [] [2,4,7,8,9] (zQS _ _ _ _ _ _)
def e96(b:Nat)(a:Tm):Option (Tm):=qV b a>>=λr1=>if r1 then zKG b a>>=λr4=>some r4 else some (Tm.mk 0 0 [])
theorem c96{b a}:Cz (e96 b a) 96 [] [yL a] (λr=>yL r) (λ_=>[]) 0:=fw func96<|rK 1 [] pP (λ_=>rC 2 [] yAw λ_=>fE 1) λ_=>fE 2
theorem vF(t:Tm):Tm.mk t.k t.n t.sub=t:=by cases t;rfl
theorem Z1{α:Type}{l:List α}{v:Nat}{x:α}{r:List α}(h:l.drop v=x::r):l.take (v+1)=l.take v++[x]:=by
 have:l[v]?=some x:=by have:=congrArg (λz=>z[0]?) h;simpa using this
 rw[List.take_add_one,this];rfl
mutual theorem zAI:∀(t:Tm),xP t=true->zB (λq=>zKG q t) t|.mk k n l,hg=>by refine zB.succ ?_;simp only[zKG];have hh:=wU hg;exact Z2 l (.mk k n l) 0 [] rfl hh.2 (by have:=(mC hh.1).2.2.2.2;exact this) rfl theorem Z2:∀(l:List Tm)(p:Tm)(v:Nat)(acc:List Tm),p.sub.drop v=l->wT l=true->p.sub.length<=2->acc=p.sub.take v->zB (λq=>eA q p (v:Int) acc) p|[],p,v,acc,hd,hg,hl,ha=>by refine zB.succ ?_;simp only[eA];refine zB.ifF (yE hd) (zB.ret.eq ?_);have:p.sub.length<=v:=List.drop_eq_nil_iff.1 hd;rw[ha,List.take_of_length_le this,vF]|t::l,p,v,acc,hd,hg,hl,ha=>by have hlt:=yK hd;have hc:=wV hg;refine zB.succ ?_;simp only[eA];refine zB.ifT (yD hd) (zB.pure (zY hd) ((zAI t hc.1).bind (zB.pure (zW (by rw[ha];simp<;>omega)) ?_)));rw[zV v (by omega)];exact Z2 l p (v+1) _ (zR hd) hc.2 hl (by rw[ha,Z1 hd])end
def kJ(t:Tm):Tm:=if zJ t=true then t else .mk 0 0 []
theorem nN(t:Tm)(ho:t.Ok):zB (λq=>e96 q t) (kJ t):=by
 simp only[e96];refine(xR t ho).bind ?_;unfold kJ;by_cases h:zJ t=true;·rw[if_pos h];exact zB.ifT h ((zAI t (zK h).2.2).bind zB.ret)
 ·rw[if_neg h];exact zB.ifF (by simpa using h) zB.ret
def zZ:Tm->Tm|.mk k n [a,b]=>if k=5 then zZ a else .mk k n [a,b]|x=>x
def yW:Tm->List Tm|.mk k _ [a,b]=>if k=5 then yW a++[b]else[]|_=>[]
theorem zQU{l:List Tm}(h:l.length=2):∃a b,l=[a,b]:=by rcases l with _|⟨a,_|⟨b,_|⟨c,l⟩⟩⟩<;>simp at h;exact⟨a,b,rfl⟩
theorem eC(n:Int)(a b:Tm):zZ (.mk 5 n [a,b])=zZ a:=by rw[zZ];simp
theorem mX(n:Int)(a b:Tm):yW (.mk 5 n [a,b])=yW a++[b]:=by rw[yW];simp
theorem qX{t:Tm}(h:t.k≠5):zZ t=t:=by
 unfold zZ;split;·exact if_neg h
 ·rfl
theorem sJ{t:Tm}(h:t.k≠5):yW t=[]:=by
 unfold yW;split;·exact if_neg h
 ·rfl
theorem E1{P:Tm->Prop}(h0:∀t,xP t=true->t.k≠5->P t)(h1:∀n a b,xP (.mk 5 n [a,b])=true->xP a=true->xP b=true->P a->P (.mk 5 n [a,b])):∀t:Tm,xP t=true->P t:=by intro t;induction hn:t.nodes using Nat.strongRecOn generalizing t with|ind m ih=>
 intro hg;by_cases h:t.k=5
 ·obtain⟨k,n,l⟩:=t;have hh:=wU hg;have hs:=tR hh.1;simp only[Tm.k]at h;subst h;obtain⟨a,b,rfl⟩:=zQU (hs.2.2.2.2.2.1 (.inr (.inr rfl))).1;have hc:=wV hh.2;have hc2:=wV hc.2;refine h1 n a b hg hc.1 hc2.1 (ih a.nodes ?_ a rfl hc.1);rw[Tm.nodes,yR]at hn;omega
 ·exact h0 t hg h
theorem zQV(l:List Tm)(hl:l.length<=1048576):∀(m i:Nat)(acc:List Tm),2*i+m=l.length->acc.length=l.length->(∀p,p<l.length->acc[p]?=if p<i\/l.length<p+i+1 then l[l.length-1-p]? else l[p]?)->zB (λq=>tB q l (i:Int) ((l.length:Int)-1-i) acc) l.reverse:=by
 have fin:∀(i:Nat)(acc:List Tm),(∀p,p<l.length->p<i\/l.length<p+i+1\/l.length=2*p+1)->acc.length=l.length->(∀p,p<l.length->acc[p]?=if p<i\/l.length<p+i+1 then l[l.length-1-p]? else l[p]?)->acc=l.reverse:=λi acc h0 h1 h2=>by
  refine List.ext_getElem? λp=>?_;by_cases hp:p<l.length
  ·rw[h2 p hp,List.getElem?_reverse hp];by_cases h:p<i\/l.length<p+i+1;·rw[if_pos h]
   ·rw[if_neg h];have:=h0 p hp;rw[show l.length-1-p=p by omega]
  ·rw[List.getElem?_eq_none (by omega),List.getElem?_eq_none (by simp;omega)]
 intro m;induction m using Nat.strongRecOn with|ind m ih=>
  intro i acc hm ha hI;refine zB.succ ?_;simp only[tB];by_cases hm2:m<2;·exact zB.ifF (decide_eq_false (by omega)) (zB.ret.eq (fin i acc (λp hp=>by omega) ha hI))
  ·have g1:mO l.length ((l.length:Int)-1-i)=some (l.length-1-i):=by unfold mO;rw[if_pos (by omega)];congr 1;omega
   have g2:mO l.length (i:Int)=some i:=by unfold mO;rw[if_pos (by omega)];congr 1
   obtain⟨x,hx⟩:∃x,zO acc ((l.length-1-i:Nat):Int)=some x:=⟨acc[l.length-1-i]'(by omega),by unfold zO;rw[if_pos (by omega)];simp⟩;obtain⟨y,hy⟩:∃y,zO acc (i:Int)=some y:=⟨acc[i]'(by omega),by unfold zO;rw[if_pos (by omega)];simp⟩;have ex:acc[l.length-1-i]?=some x:=by have:=(kG hx).2.2;simpa using this
   have ey:acc[i]?=some y:=by have:=(kG hy).2.2;simpa using this
   rw[hI _ (by omega),if_neg (by omega)]at ex ey;refine zB.ifT (decide_eq_true (by omega)) (zB.pure g1 (zB.pure hx (zB.pure g2 (zB.pure hy (zB.pure (a:=acc.set i x) (by unfold cG;rw[if_pos (by omega)]) (zB.pure (a:=(acc.set i x).set (l.length-1-i) y) (by unfold cG;rw[if_pos (by simp;omega)]) ?_))))));rw[zV i (by omega),zS (by omega) (by omega),show(l.length:Int)-1-i-1=(l.length:Int)-1-((i+1:Nat):Int)by omega];refine ih (m-2) (by omega) (i+1) _ (by omega) (by simp[ha]) λp hp=>?_;rw[List.getElem?_set,List.getElem?_set];by_cases h1:l.length-1-i=p;·rw[if_pos h1,if_pos (by simp;omega),if_pos (by omega),show l.length-1-p=i by omega,ey]
   ·rw[if_neg h1];by_cases h2:i=p;·rw[if_pos h2,if_pos (by omega),if_pos (by omega),show l.length-1-p=l.length-1-i by omega,ex]
    ·rw[if_neg h2,hI p hp];by_cases h3:p<i\/l.length<p+i+1;·rw[if_pos h3,if_pos (by omega)]
     ·rw[if_neg h3,if_neg (by omega)]
theorem zNc(l:List Tm)(hl:l.length<=1048576):zB (λq=>mE q l) l.reverse:=by
 simp only[mE];rw[zS (by omega) (by omega)];have:=zQV l hl l.length 0 l (by omega) rfl λp hp=>by rw[if_neg (by omega)]
 simpa using this
theorem zKH(p0:Tm):∀t:Tm,xP t=true->∀l:List Tm,l.length+t.nodes<=8192->zB (λq=>uL q p0 l t.k t.n t.sub) (.inr (yW t++l.reverse,zZ t)):=by
 refine E1 ?_ ?_
 ·intro t hg hk l hl;rw[qX hk,sJ hk];refine zB.succ ?_;simp only[uL];refine zB.ifF (by simpa using hk) ((zNc l (by omega)).bind (zB.pure (a:=l.reverse) (by unfold gfz;rw[if_pos (by simp)]) (zB.ret.eq ?_)));rw[vF];simp
 ·intro n a b hg ha hb ih l hl;rw[Tm.nodes,yR,yR,yR]at hl;rw[eC,mX];refine zB.succ ?_;simp only[uL];refine zB.ifT rfl (zB.ifT rfl (zB.ifF (decide_eq_false (by omega)) (zB.pure (a:=b) rfl (zB.pure (zW (by simp;omega)) (zB.pure (a:=a) rfl ((ih (l++[b]) (by simp;omega)).eq ?_))))));simp
theorem kK(t:Tm)(hs:zJ t=true):zB (λq=>E0 q t) (zZ t,yW t):=by have h:=zK hs;simp only[E0,aK];refine(zKH t t h.2.2 [] (by simpa using h.1)).bind (zB.ret.eq ?_);simp
theorem eD:∀t:Tm,xP t=true->xP (zZ t)=true/\(zZ t).k≠5/\(zZ t).nodes<=t.nodes/\(zZ t).high<=t.high/\∀x∈yW t,xP x=true/\x.nodes<t.nodes/\x.high<t.high:=by
 refine E1 ?_ ?_
 ·intro t hg hk;rw[qX hk,sJ hk];exact⟨hg,hk,Nat.le_refl _,Nat.le_refl _,λx hx=>by cases hx⟩
 ·intro n a b hg ha hb ih;rw[eC,mX];simp only[Tm.nodes,yR,Tm.high,vC];refine⟨ih.1,ih.2.1,by omega,by omega,λx hx=>?_⟩;rcases List.mem_append.1 hx with hx|hx;·have:=ih.2.2.2.2 x hx;exact⟨this.1,by omega,by omega⟩
  ·simp at hx;subst hx;exact⟨hb,by omega,by omega⟩
theorem mF{t:Tm}(h1:t.nodes<=8192)(h2:t.high<=128)(h3:xP t=true):zJ t=true:=by unfold zJ;simp[h1,h2,h3]
theorem xS{t x:Tm}(h:zJ t=true)(hx:x∈yW t):zJ x=true:=by have hs:=zK h;have:=(eD t hs.2.2).2.2.2.2 x hx;exact mF (by omega) (by omega) this.1
theorem uV{t:Tm}(h:zJ t=true):zJ (zZ t)=true:=by have hs:=zK h;have:=eD t hs.2.2;exact mF (by omega) (by omega) this.1
theorem sT:∀t:Tm,xP t=true->(yW t).length<t.nodes:=by
 refine E1 ?_ ?_;·intro t hg hk;rw[sJ hk];have:=wO t;simp;omega
 ·intro n a b hg ha hb ih;rw[mX,Tm.nodes,yR,yR,yR];simp;omega
def tJ(f:Tm):List Tm->Tm|[]=>f|a::l=>tJ (.mk 5 0 [f,a]) l
theorem qY(f a:Tm):zB (λq=>kI q f a) (.mk 5 0 [f,a]):=zB.mk λ_=>rfl
theorem zAJ:∀(l p:List Tm)(v:Nat)(f:Tm),p.drop v=l->p.length<9223372036854775808->zB (λq=>eB q p (v:Int) f.k f.n f.sub) (tJ f l)|[],p,v,f,hd,hl=>by refine zB.succ ?_;simp only[eB];exact zB.ifF (yE hd) (zB.ret.eq (by rw[vF,tJ]))|a::l,p,v,f,hd,hl=>by have hlt:=yK hd;refine zB.succ ?_;simp only[eB];rw[vF];refine zB.ifT (yD hd) (zB.pure (zY hd) ((qY f a).bind ?_));rw[zV v (by omega),tJ];exact zAJ l p (v+1) (.mk 5 0 [f,a]) (zR hd) hl
theorem vD(f:Tm)(l:List Tm)(h:l.length<9223372036854775808):zB (λq=>nM q f l) (tJ f l):=by simp only[nM];exact zAJ l l 0 f rfl h
theorem uH:∀(l:List Tm)(f:Tm),f.Ok->(∀x∈l,x.Ok)->(tJ f l).Ok|[],f,hf,_=>by rw[tJ];exact hf|a::l,f,hf,hl=>by rw[tJ];refine uH l _ ?_ λx hx=>hl x (by simp[hx]);rw[Tm.Ok,mU,mU,mU];exact⟨by simp,hf,hl a (by simp),trivial⟩
def Q8(b:Nat)(a:Int):Option (Tm):=zEc b 2 a []>>=λr1=>some r1
theorem zCj{b a}:Cz (Q8 b a) 129 [] [ai a] (λr=>yL r) (λ_=>[]) 0:=fw func129<|rC 0 [] zGQ λ_=>fE 1
def iU(b:Nat)(a:Int):Option (Tm):=zEc b 1 a []>>=λr1=>some r1
theorem kL{b a}:Cz (iU b a) 132 [] [ai a] (λr=>yL r) (λ_=>[]) 0:=fw func132<|rC 0 [] zGQ λ_=>fE 1
def zNb(b:Nat)(a:Int):Option (Bool):=if decide (a>=0)then some (decide (a<=1048576))else some false
theorem zXO{b a}:Cz (zNb b a) 318 [] [ai a] (λr=>ab r) (λ_=>[]) 0:=fw func318<|rB 0 (fE 1)<|fE 0
def Z3(d:Nat)(a b c:Int):Option (Int):=if decide (a<b)then some a else some (yJ (a+c))
theorem zNa{d a b c}:Cz (Z3 d a b c) 320 [.cells [ai b],.cells [ai c]] [ai a,.mp 0 0,.mp 1 0] (λr=>ai r) (λ_=>[.cells [ai b],.cells [ai c]]) 0:=fw func320<|rB 1 (fE 0)<|fE 2
mutual def oJ:Nat->Tm->Int->Int->Int->Option (Tm)|0,_,_,_,_=>none|g+1,b,e,c,d=>if b.k==1 then if decide (b.n>=e)then Z3 g (yJ (b.n-e)) c d>>=λr3=>iU g (yJ (r3+e))>>=λr5=>some r5 else iU g b.n>>=λr7=>some r7 else uM g b e c d 0 []def uM:Nat->Tm->Int->Int->Int->Int->yA->Option (Tm)
 |0,_,_,_,_,_,_=>none|g+1,b,e,c,d,f,a=>if decide (f<(b.sub.length:Int))then zO b.sub f>>=λx10=>if f==1 then if b.k !=5 then oJ g x10 (yJ (e+1)) c d>>=λr14=>yT 40 a [r14]>>=λl16=>uM g b e c d (yJ (f+1)) l16 else oJ g x10 e c d>>=λr18=>yT 40 a [r18]>>=λl20=>uM g b e c d (yJ (f+1)) l20 else oJ g x10 e c d>>=λr22=>yT 40 a [r22]>>=λl24=>uM g b e c d (yJ (f+1)) l24 else some (Tm.mk b.k b.n a)end
theorem cH:∀g:Nat,(∀b e c d,Cz (oJ g b e c d) 319 [.cells [ai c],.cells [ai d]] [yL b,ai e,.clo 320 [] [.mp 0 0,.mp 1 0]] (λr=>yL r) (λ_=>[.cells [ai c],.cells [ai d]]) 0)/\(∀b e c d f a,Lz (uM g b e c d f a) 2 f319 (pt 16309 f319) (λj=>sp j 64 0 [(1,ai e),(2,.clo 320 [] [.mp 0 0,.mp 1 0]),(3,.mp 2 0),(6,.mp 3 0),(7,.mp 4 0),(36,zC zA b.sub .no),(37,ai (b.sub.length:Int)),(38,ai f)]) ⟨[(0,.cells [ai c]),(1,.cells [ai d]),(2,.cells [ai b.k,ai b.n,zC zA b.sub .no]),(3,.cells [ai 0,ai 0,zC zA ([]:yA) .nl]),(4,.cells [ai b.k,ai b.n,zC zA a (.st 0 3)])],5,[0],1,[]⟩ (λr=>yL r) (λ_=>[.cells [ai c],.cells [ai d]]) 0 [.blk 0,.seq (pt 255 f319)]):=xF ⟨λ_ _ _ _=>cN,λ_ _ _ _ _ _=>lN⟩ λg ih=>⟨λb e c d=>fw func319<|rB 1 (rB 1 (rC 2 [0,1] zNa λ_=>rC 1 [] kL λ_=>fE 1)<|rC 1 [] kL λ_=>fE 1)<|fH 5 [(some 4,2,3)] [0,1,2,3,4] [0] [1,2,3,6,7,36,37,38] (ih.2 _ _ _ _ _ _),λb e c d f a=>lw λ_=>rB 0 (rA 0 (xA (o:=.no)) λ_=>rB 2 (rB 1 (rS (b9 1)<|rC 1 [0,1] (ih.1 _ _ _ _) λr14=>rS (oS 0 (yU xH [r14]))<|rW (λh17=>oP 0 (xY h17 (by simp))) λ_=>lH 2 [] [0,1,2,3,4] [1] [1,2,3,6,7,36,37,38] (ih.2 _ _ _ _ _ _))<|rS (b9 0)<|rC 1 [0,1] (ih.1 _ _ _ _) λr18=>rS (oS 0 (yU xH [r18]))<|rW (λh21=>oP 0 (xY h21 (by simp))) λ_=>lH 2 [] [0,1,2,3,4] [1] [1,2,3,6,7,36,37,38] (ih.2 _ _ _ _ _ _))<|rS (b9 0)<|rC 1 [0,1] (ih.1 _ _ _ _) λr22=>rS (oS 0 (yU xH [r22]))<|rW (λh25=>oP 0 (xY h25 (by simp))) λ_=>lH 2 [] [0,1,2,3,4] [1] [1,2,3,6,7,36,37,38] (ih.2 _ _ _ _ _ _))<|lE 2⟩
theorem zNA{g b e c d}:Cz (oJ g b e c d) 319 [.cells [ai c],.cells [ai d]] [yL b,ai e,.clo 320 [] [.mp 0 0,.mp 1 0]] (λr=>yL r) (λ_=>[.cells [ai c],.cells [ai d]]) 0:=(cH _).1 _ _ _ _
def zNB(a:Nat)(b:Tm)(c d:Int):Option (Tm×Int):=qV a b>>=λr1=>if r1 then zNb a c>>=λr4=>if r4 then zNb a d>>=λr7=>if r7 then oJ a b 0 d c>>=λr10=>qV a r10>>=λr12=>if r12 then some (r10,0)else some ((Tm.mk 0 0 []),2)else some ((Tm.mk 0 0 []),5)else some ((Tm.mk 0 0 []),5)else some ((Tm.mk 0 0 []),5)
theorem zXP{a b c d}:Cz (zNB a b c d) 294 [] [yL b,ai c,ai d] (λr=>.tup [yL r.1,ai r.2]) (λ_=>[]) 0:=fw func294<|rK 1 [] pP (λ_=>rK 2 [] zXO (λ_=>rK 2 [] zXO (λ_=>rC 2 [2,1] zNA λ_=>rK 2 [] pP (λ_=>fE 3) λ_=>fE 2) λ_=>fE 2) λ_=>fE 2) λ_=>fE 2
def zEa(c:Nat)(a:Tm)(b:Int):Option (Tm×Int):=zNB c a b 0>>=λr1=>some (r1.1,r1.2)
theorem zNC{c a b}:Cz (zEa c a b) 252 [] [yL a,ai b] (λr=>.tup [yL r.1,ai r.2]) (λ_=>[]) 0:=fw func252<|rC 1 [] zXP λ_=>fE 3
def sP(k:Int)(i:Nat)(b:Int):Int:=if i=1/\k≠5 then b+1 else b
mutual def Q9:Tm->Int->Int->Int->Tm|.mk kd n l,b,c,k=>if kd=1 then .mk 1 (if b<=n then(if n-b<c then n-b else n-b+k)+b else n) []else .mk kd n (lfL l kd 0 b c k)def lfL:List Tm->Int->Nat->Int->Int->Int->List Tm|[],_,_,_,_,_=>[]|t::l,kd,i,b,c,k=>Q9 t (sP kd i b) c k::lfL l kd (i+1) b c k end
theorem zIP:∀(l:List Tm)(kd:Int)(i:Nat)(b c k:Int),(lfL l kd i b c k).length=l.length|[],_,_,_,_,_=>by rw[lfL]|t::l,kd,i,b,c,k=>by rw[lfL];exact congrArg (·+1) (zIP l kd (i+1) b c k)
theorem sU(n:Int):zB (λq=>iU q n) (.mk 1 n []):=zB.mk λ_=>rfl
theorem mY(n:Int):zB (λq=>Q8 q n) (.mk 2 n []):=zB.mk λ_=>rfl
mutual theorem S4:∀(t:Tm)(b c k:Int),xP t=true->0<=b->b+t.high<=1152921504606846976->0<=c->c<=1048576->0<=k->k<=1048576->zB (λq=>oJ q t b c k) (Q9 t b c k)
 |.mk kd n l,b,c,k,hg,hb,hb2,hc,hc2,hk,hk2=>by
  refine zB.succ ?_;simp only[oJ];have hh:=wU hg;have hn:=mC hh.1;rw[Tm.high]at hb2;rw[Q9];by_cases h1:kd=1
  ·rw[if_pos h1];refine zB.ifT (by simpa[Tm.k]using h1) ?_;simp only[Tm.n];by_cases h2:n>=b
   ·refine zB.ifT (by simpa using h2) ?_;rw[if_pos h2,zS (x:=n-b) (by omega) (by omega)];refine zB.bind (a:=if n-b<c then n-b else n-b+k) ?_ ?_
    ·refine zB.mk λq=>?_;unfold Z3;by_cases h3:n-b<c;·simp[h3]
     ·simp[h3];exact zS (by omega) (by omega)
    ·rw[zS (by split<;>omega) (by split<;>omega)];exact(sU _).bind zB.ret
   ·refine zB.ifF (by simpa using h2) ?_;rw[if_neg h2];exact(sU _).bind zB.ret
  ·rw[if_neg h1];refine zB.ifF (by simpa[Tm.k]using h1) ?_;exact zEA l (.mk kd n l) 0 b c k [] rfl hh.2 (by have:=hn.2.2.2.2;exact this) hb (by omega) hc hc2 hk hk2 (by simp)theorem zEA:∀(l:List Tm)(p:Tm)(v:Nat)(b c k:Int)(acc:List Tm),p.sub.drop v=l->wT l=true->p.sub.length<=2->0<=b->b+1+vC l<=1152921504606846976->0<=c->c<=1048576->0<=k->k<=1048576->acc.length<=v->zB (λq=>uM q p b c k (v:Int) acc) (.mk p.k p.n (acc++lfL l p.k v b c k))
 |[],p,v,b,c,k,acc,hd,hg,hl,hb,hb2,hc,hc2,hk,hk2,ha=>by refine zB.succ ?_;simp only[uM];exact zB.ifF (yE hd) (zB.ret.eq (by rw[lfL];simp))|t::l,p,v,b,c,k,acc,hd,hg,hl,hb,hb2,hc,hc2,hk,hk2,ha=>by
  have hlt:=yK hd;have hgc:=wV hg;rw[vC]at hb2;refine zB.succ ?_;simp only[uM];refine zB.ifT (yD hd) (zB.pure (zY hd) ?_);have next:∀(x:Tm),zB (λq=>yT 40 acc [x]>>=λl16=>uM q p b c k (yJ ((v:Int)+1)) l16) (.mk p.k p.n (acc++x::lfL l p.k (v+1) b c k)):=λx=>by refine zB.pure (zW (by simp<;>omega)) ?_;rw[zV v (by omega)];refine(zEA l p (v+1) b c k (acc++[x]) (zR hd) hgc.2 hl hb (by omega) hc hc2 hk hk2 (by simp<;>omega)).eq (by simp)
  rw[lfL];by_cases h1:v=1
  ·subst h1;refine zB.ifT rfl ?_;by_cases h5:p.k=5
   ·refine zB.ifF (by simp[h5]) ?_;have e:sP p.k 1 b=b:=by unfold sP;simp[h5]
    rw[e];exact(S4 t b c k hgc.1 hb (by omega) hc hc2 hk hk2).bind (next _)
   ·refine zB.ifT (by simp[h5]) ?_;have e:sP p.k 1 b=b+1:=by unfold sP;simp[h5]
    rw[e,zS (x:=b+1) (by omega) (by omega)];exact(S4 t (b+1) c k hgc.1 (by omega) (by omega) hc hc2 hk hk2).bind (next _)
  ·refine zB.ifF (by simp<;>omega) ?_;have e:sP p.k v b=b:=by unfold sP;simp[h1]
   rw[e];exact(S4 t b c k hgc.1 hb (by omega) hc hc2 hk hk2).bind (next _)end
mutual theorem zGR:∀(t:Tm)(b c k:Int),t.Ok->(Q9 t b c k).Ok
 |.mk kd n l,b,c,k,h=>by
  rw[Q9];split;·rw[Tm.Ok,mU];simp
  ·rw[Tm.Ok]at h⊢;rw[zIP];exact⟨h.1,zND l kd 0 b c k h.2⟩theorem zND:∀(l:List Tm)(kd:Int)(i:Nat)(b c k:Int),mU l->mU (lfL l kd i b c k)|[],_,_,_,_,_,_=>by rw[lfL,mU];trivial|t::l,kd,i,b,c,k,h=>by rw[mU]at h;rw[lfL,mU];exact⟨zGR t _ c k h.1,zND l kd (i+1) b c k h.2⟩end
def bM(n:Int):Bool:=decide (0<=n)&&decide (n<=1048576)
theorem zIQ(n:Int):zB (λq=>zNb q n) (bM n):=by
 refine zB.mk λq=>?_;unfold zNb bM;by_cases h:n>=0;·rw[zUO (decide_eq_true h)];simp[show 0<=n from h]
 ·rw[zQA (decide_eq_false h)];simp[show¬0<=n from h]
def zT:Tm:=.mk 0 0 []
def vU(t:Tm)(k c:Int):Tm×Int:=if zJ t=true/\bM k=true/\bM c=true then(if zJ (Q9 t 0 c k)=true then(Q9 t 0 c k,0)else(zT,2))else(zT,5)
theorem zIR(t:Tm)(k c:Int)(ho:t.Ok):zB (λq=>zNB q t k c) (vU t k c):=by
 simp only[zNB];refine(xR t ho).bind ?_;unfold vU;by_cases h1:zJ t=true
 ·refine zB.ifT h1 ((zIQ k).bind ?_);by_cases h2:bM k=true
  ·refine zB.ifT h2 ((zIQ c).bind ?_);by_cases h3:bM c=true
   ·rw[if_pos ⟨h1,h2,h3⟩];have hs:=zK h1;have h2':=h2;have h3':=h3;unfold bM at h2' h3';simp only[Bool.and_eq_true,decide_eq_true_eq]at h2' h3';refine zB.ifT h3 ((S4 t 0 c k hs.2.2 (by omega) (by omega) h3'.1 h3'.2 h2'.1 h2'.2).bind ((xR _ (zGR t 0 c k ho)).bind ?_));by_cases h4:zJ (Q9 t 0 c k)=true;·rw[if_pos h4,if_pos h4];exact zB.ret
    ·rw[if_neg h4,if_neg h4];exact zB.ret
   ·rw[if_neg (λh=>h3 h.2.2)];exact zB.ifF (by simpa using h3) zB.ret
  ·rw[if_neg (λh=>h2 h.2.1)];exact zB.ifF (by simpa using h2) zB.ret
 ·rw[if_neg (λh=>h1 h.1)];exact zB.ifF (by simpa using h1) zB.ret
theorem gQ(t:Tm)(k c:Int)(ho:t.Ok):(vU t k c).1.Ok:=by
 have hz:zT.Ok:=by unfold zT;rw[Tm.Ok,mU];simp
 unfold vU;split
 ·split;·exact zGR t 0 c k ho
  ·exact hz
 ·exact hz
theorem zEB(t:Tm)(k:Int)(ho:t.Ok):zB (λq=>zEa q t k) (vU t k 0):=by simp only[zEa];exact(zIR t k 0 ho).bind zB.ret
def raT(a:Tm)(by' left:Int)(long:Bool):Tm×Int×Bool:=if left-b8 a 0<0 then(.mk 2 0 [],left-b8 a 0,true)else if(vU a by' 0).2≠0 then(.mk 2 0 [],left-b8 a 0,true)else((vU a by' 0).1,left-b8 a 0,long)
mutual def B1(ls:List Tm):Tm->Int->Int->Bool->Tm×Int×Bool|.mk kd n l,b,left,long=>if long=true then(.mk 2 0 [],left,long)else if kd=1/\b<=n then(if h:(n-b).toNat<ls.length then raT (ls[(n-b).toNat]) b left long else(.mk 1 (n-ls.length) [],left,long))else let r:=O7 ls l kd 0 b (left-1) (decide (left-1<0))
  (.mk kd n r.1,r.2.1,r.2.2)def O7(ls:List Tm):List Tm->Int->Nat->Int->Int->Bool->List Tm×Int×Bool|[],_,_,_,left,long=>([],left,long)|t::l,kd,i,b,left,long=>let x:=B1 ls t (sP kd i b) left long
 let r:=O7 ls l kd (i+1) b x.2.1 x.2.2
 (x.1::r.1,r.2.1,r.2.2)end
def mG(left:Int)(long:Bool):Prop:=-8193<=left/\left<=8192/\(long=false->0<=left)
theorem zNE{a:Tm}{by' left:Int}(h:mG left false):mG (raT a by' left false).2.1 (raT a by' left false).2.2:=by
 have:=zDR a 0 (by omega) (by omega);have h0:=h.2.2 rfl;have h1:=h.2.1;unfold raT mG;split;·exact⟨by simp only;omega,by simp only;omega,λh=>by cases h⟩
 ·split;·exact⟨by simp only;omega,by simp only;omega,λh=>by cases h⟩
  ·exact⟨by simp only;omega,by simp only;omega,λ_=>by simp only;omega⟩
def zEC(d:Nat)(a:Int)(b:Bool)(c:yA):Option (Unit):=some ()
theorem zNF{d a b c}:Cz (zEC d a b c) 288 [.cells [ai a,ab b,.val .nilFunc],.cells [zC zA c .no]] [.mp 0 0,.mp 1 0] (λ_=>.clo 289 [] [.mp 1 0,.mp 2 0]) (λ_=>[.cells [ai a,ab b,.val .nilFunc],.cells [zC zA c .no],.cells [.mp 0 0]]) 0:=fw func288<|fF 0 [0,1,2]
def zQW(c:Nat)(a:Tm)(b:Int):Option (Int):=if a.k !=1 then some (-1)else if decide (a.n<b)then some (-1)else some (yJ (a.n-b))
theorem yAv{c a b}:Cz (zQW c a b) 290 [] [yL a,ai b] (λr=>ai r) (λ_=>[]) 0:=fw func290<|rB 1 (fE 0)<|rB 1 (fE 0)<|fE 2
def E2(b:Nat)(a:Int)(d:Bool)(e:yA)(c:Tm)(f:Int):Option (Tm×Int×Bool):=zNk b c>>=λr1=>if decide ((yJ (a-r1))<0)then Q8 b 0>>=λr4=>some (r4,(yJ (a-r1)),true)else zEa b c f>>=λr6=>if r6.2 !=0 then Q8 b 0>>=λr9=>some (r9,(yJ (a-r1)),true)else some (r6.1,(yJ (a-r1)),d)
theorem zNG{b a d e c f}:Cz (E2 b a d e c f) 291 [.cells [ai a,ab d,.clo 289 [] [.mp 1 0,.mp 2 0]],.cells [zC zA e .no],.cells [.mp 0 0]] [.mp 0 0,yL c,ai f] (λr=>yL r.1) (λr=>[.cells [ai r.2.1,ab r.2.2,.clo 289 [] [.mp 1 0,.mp 2 0]],.cells [zC zA e .no],.cells [.mp 0 0]]) 0:=fw func291<|rS (b9 0)<|rC 1 [] zXJ λ_=>rB 3 (rC 1 [] zCj λ_=>fE 1)<|rC 1 [] zNC λ_=>rB 3 (rC 1 [] zCj λ_=>fE 1)<|fE 2
def kM(d:Nat)(e:Tm)(f:Int)(a:yA)(b:Int)(c:Bool):Option (Tm×Bool×Int×Bool):=zQW d e f>>=λr1=>if decide (r1<0)then some ((Tm.mk 0 0 []),false,b,c)else if decide (r1<(a.length:Int))then zO a r1>>=λx5=>E2 d b c a x5 f>>=λr7=>some (r7.1,true,r7.2.1,r7.2.2)else iU d (yJ (e.n-(a.length:Int)))>>=λr9=>some (r9,true,b,c)
theorem zNH{d e f a b c}:Cz (kM d e f a b c) 289 [.cells [zC zA a .no],.cells [.mp 2 0],.cells [ai b,ab c,.clo 289 [] [.mp 0 0,.mp 1 0]]] [yL e,ai f,.mp 0 0,.mp 1 0] (λr=>.tup [yL r.1,ab r.2.1]) (λr=>[.cells [zC zA a .no],.cells [.mp 2 0],.cells [ai r.2.2.1,ab r.2.2.2,.clo 289 [] [.mp 0 0,.mp 1 0]]]) 0:=fw func289<|rC 1 [] yAv λ_=>rB 0 (fE 1)<|rB 2 (rA 2 (xA (o:=.no)) λ_=>rC 1 [2,0,1] zNG λ_=>fE 1)<|rC 4 [] kL λ_=>fE 1
mutual def oN:Nat->Int->Bool->yA->Tm->Int->Option (Tm×Int×Bool)|0,_,_,_,_,_=>none|m+1,q,p,e,d,f=>if p then Q8 m 0>>=λr2=>some (r2,q,p)else kM m d f e q p>>=λr4=>if r4.2.1 then some (r4.1,r4.2.2.1,r4.2.2.2)else if decide ((yJ (r4.2.2.1-1))<0)then vI m e d f 0 (yJ (r4.2.2.1-1)) true []else vI m e d f 0 (yJ (r4.2.2.1-1)) r4.2.2.2 []def vI:Nat->yA->Tm->Int->Int->Int->Bool->yA->Option (Tm×Int×Bool)
 |0,_,_,_,_,_,_,_=>none|m+1,e,d,f,g,a,b,c=>if decide (g<(d.sub.length:Int))then zO d.sub g>>=λx9=>if g==1 then if d.k !=5 then oN m a b e x9 (yJ (f+1))>>=λr13=>yT 40 c [r13.1]>>=λl15=>vI m e d f (yJ (g+1)) r13.2.1 r13.2.2 l15 else oN m a b e x9 f>>=λr17=>yT 40 c [r17.1]>>=λl19=>vI m e d f (yJ (g+1)) r17.2.1 r17.2.2 l19 else oN m a b e x9 f>>=λr21=>yT 40 c [r21.1]>>=λl23=>vI m e d f (yJ (g+1)) r21.2.1 r21.2.2 l23 else some ((Tm.mk d.k d.n c),a,b)end
theorem cI:∀m:Nat,(∀q p e d f,Cz (oN m q p e d f) 315 [.cells [ai q,ab p,.clo 289 [] [.mp 1 0,.mp 2 0]],.cells [zC zA e .no],.cells [.mp 0 0]] [.mp 0 0,yL d,ai f] (λr=>yL r.1) (λr=>[.cells [ai r.2.1,ab r.2.2,.clo 289 [] [.mp 1 0,.mp 2 0]],.cells [zC zA e .no],.cells [.mp 0 0]]) 0)/\(∀e d f g a b c,Lz (vI m e d f g a b c) 3 f315 (pt 262069 f315) (λj=>sp j 79 0 [(0,.mp 0 0),(2,ai f),(4,.mp 3 0),(6,.mp 4 0),(9,.mp 5 0),(51,zC zA d.sub .no),(52,ai (d.sub.length:Int)),(53,ai g)]) ⟨[(0,.cells [ai a,ab b,.clo 289 [] [.mp 1 0,.mp 2 0]]),(1,.cells [zC zA e .no]),(2,.cells [.mp 0 0]),(3,.cells [ai d.k,ai d.n,zC zA d.sub .no]),(4,.cells [ai 0,ai 0,zC zA ([]:yA) .nl]),(5,.cells [ai d.k,ai d.n,zC zA c (.st 0 3)])],6,[0],1,[]⟩ (λr=>yL r.1) (λr=>[.cells [ai r.2.1,ab r.2.2,.clo 289 [] [.mp 1 0,.mp 2 0]],.cells [zC zA e .no],.cells [.mp 0 0]]) 0 [.blk 0,.seq (pt 4095 f315)]):=xF ⟨λ_ _ _ _ _=>cN,λ_ _ _ _ _ _ _=>lN⟩ λm ih=>⟨λq p e d f=>fw func315<|rB 0 (rC 0 [] zCj λ_=>fE 1)<|rC 2 [1,2,0] zNH λ_=>rB 1 (fE 3)<|rB 5 (fH 6 [(some 6,2,3)] [0,1,2,3,4,6] [0] [0,2,4,6,9,51,52,53] (ih.2 _ _ _ _ _ _ _))<|fH 5 [(some 6,2,3)] [0,1,2,3,4,6] [0] [0,2,4,6,9,51,52,53] (ih.2 _ _ _ _ _ _ _),λe d f g a b c=>lw λ_=>rB 0 (rA 0 (xA (o:=.no)) λ_=>rB 2 (rB 1 (rS (b9 1)<|rC 1 [0,1,2] (ih.1 _ _ _ _ _) λr13=>rS (oS 0 (yU xH [r13.1]))<|rW (λh16=>oP 0 (xY h16 (by simp))) λ_=>lH 2 [] [0,1,2,3,4,5] [1] [0,2,4,6,9,51,52,53] (ih.2 _ _ _ _ _ _ _))<|rS (b9 0)<|rC 1 [0,1,2] (ih.1 _ _ _ _ _) λr17=>rS (oS 0 (yU xH [r17.1]))<|rW (λh20=>oP 0 (xY h20 (by simp))) λ_=>lH 2 [] [0,1,2,3,4,5] [1] [0,2,4,6,9,51,52,53] (ih.2 _ _ _ _ _ _ _))<|rS (b9 0)<|rC 1 [0,1,2] (ih.1 _ _ _ _ _) λr21=>rS (oS 0 (yU xH [r21.1]))<|rW (λh24=>oP 0 (xY h24 (by simp))) λ_=>lH 2 [] [0,1,2,3,4,5] [1] [0,2,4,6,9,51,52,53] (ih.2 _ _ _ _ _ _ _))<|lE 2⟩
theorem zNI{m q p e d f}:Cz (oN m q p e d f) 315 [.cells [ai q,ab p,.clo 289 [] [.mp 1 0,.mp 2 0]],.cells [zC zA e .no],.cells [.mp 0 0]] [.mp 0 0,yL d,ai f] (λr=>yL r.1) (λr=>[.cells [ai r.2.1,ab r.2.2,.clo 289 [] [.mp 1 0,.mp 2 0]],.cells [zC zA e .no],.cells [.mp 0 0]]) 0:=(cI _).1 _ _ _ _ _
def E4(b:Nat)(c:Tm)(a:yA):Option (Tm×Int):=zEC b 8192 false a>>=λr1=>oN b 8192 false a c 0>>=λr3=>if r3.2.2 then some ((Tm.mk 0 0 []),2)else qV b r3.1>>=λr6=>if r6 then some (r3.1,0)else some ((Tm.mk 0 0 []),2)
theorem zNJ{b c a}:Cz (E4 b c a) 287 [.cells [zC zA a .no]] [yL c,.clo 288 [] [.mp 0 0]] (λr=>.tup [yL r.1,ai r.2]) (λ_=>[.cells [zC zA a .no]]) 0:=fw func287<|rC 0 [3,0] zNF λ_=>rC 2 [3,0,4] zNI λ_=>rB 1 (fE 1)<|rK 1 [] pP (λ_=>fE 3) λ_=>fE 2
def eE:Nat->Tm->yA->Int->Option (Tm×Int)|0,_,_,_=>none|d+1,c,a,b=>if decide (b<(a.length:Int))then zO a b>>=λx5=>qV d x5>>=λr7=>if r7 then eE d c a (yJ (b+1))else some ((Tm.mk 0 0 []),5)else E4 d c a>>=λr10=>some (r10.1,r10.2)
def zGS(d:Nat)(c:Tm)(a:yA):Option (Tm×Int):=qV d c>>=λr1=>if r1 then eE d c a 0 else some ((Tm.mk 0 0 []),5)
theorem zQX:∀d:Nat,∀c a b,Lz (eE d c a b) 0 f245 (pt 4021 f245) (λj=>sp j 28 0 [(2,.mp 0 0),(3,.mp 1 0),(4,.mp 2 0),(12,zC zA a .no),(13,ai (a.length:Int)),(14,ai b)]) ⟨[(0,.cells [ai c.k,ai c.n,zC zA c.sub .no]),(1,.cells [zC zA a .no]),(2,.cells [ai 0,ai 0,zC zA ([]:yA) .nl])],3,[],0,[]⟩ (λr=>.tup [yL r.1,ai r.2]) (λ_=>[]) 0 [.blk 0,.seq (pt 63 f245)]:=xF (λ_ _ _=>lN) λd ih=>λc a b=>lw λ_=>rB 0 (rA 0 (xA (o:=.no)) λ_=>rK 3 [] pP (λ_=>lH 2 [] [0,1,2] [] [2,3,4,12,13,14] (ih _ _ _)) λ_=>lE 2)<|rC 1 [1] zNJ λ_=>lE 3
theorem zQY{d c a}:Cz (zGS d c a) 245 [] [yL c,zC zA a .no] (λr=>.tup [yL r.1,ai r.2]) (λ_=>[]) 0:=fw func245<|rK 1 [] pP (λ_=>fH 3 [] [0,1,2] [] [2,3,4,12,13,14] (zQX _ _ _ _)) λ_=>fE 2
def zNK(c:Nat)(b a:Tm):Option (Tm×Int):=zGS c b [a]>>=λr1=>some (r1.1,r1.2)
theorem zXQ{c b a}:Cz (zNK c b a) 270 [] [yL b,yL a] (λr=>.tup [yL r.1,ai r.2]) (λ_=>[]) 0:=fw func270<|rS (oS 2 (yU xH [a]))<|rC 0 [] zQY λ_=>fE 3
theorem O8:zT.Ok:=by unfold zT;rw[Tm.Ok,mU];simp
theorem yZ(k n:Int):(Tm.mk k n []).Ok:=by rw[Tm.Ok,mU];simp
theorem zKI(ls:List Tm)(a:Tm)(b left:Int)(long:Bool)(ho:a.Ok)(hl:mG left long):zB (λq=>E2 q left long ls a b) (raT a b left long):=by
 simp only[E2];have hs:=zDR a 0 (by omega) (by omega);have h1:=hl.1;have h2:=hl.2.1;refine(zIM a ho).bind ?_;rw[zS (x:=left-b8 a 0) (by omega) (by omega)];unfold raT;by_cases h:left-b8 a 0<0;·rw[if_pos h];exact zB.ifT (decide_eq_true h) ((mY 0).bind zB.ret)
 ·rw[if_neg h];refine zB.ifF (decide_eq_false h) ((zEB a b ho).bind ?_);by_cases h3:(vU a b 0).2≠0;·rw[if_pos h3];exact zB.ifT (by simpa using h3) ((mY 0).bind zB.ret)
  ·rw[if_neg h3];exact zB.ifF (by simpa using h3) zB.ret
mutual theorem S5(ls:List Tm):∀(t:Tm)(b left:Int)(long:Bool),mG left long->mG (B1 ls t b left long).2.1 (B1 ls t b left long).2.2|.mk kd n l,b,left,long,h=>by rw[B1];cases long with|true=>simpa using h|false=>
 rw[if_neg (by simp)];split
 ·split;·exact zNE h
  ·exact h
 ·have h0:=h.2.2 rfl;have h1:=h.2.1;refine zED ls l kd 0 b _ _ ⟨by omega,by omega,λh2=>?_⟩;simp at h2;omega theorem zED(ls:List Tm):∀(l:List Tm)(kd:Int)(i:Nat)(b left:Int)(long:Bool),mG left long->mG (O7 ls l kd i b left long).2.1 (O7 ls l kd i b left long).2.2|[],kd,i,b,left,long,h=>by rw[O7];exact h|t::l,kd,i,b,left,long,h=>by rw[O7];exact zED ls l kd (i+1) b _ _ (S5 ls t _ left long h)end
theorem zIS(ls:List Tm):∀(l:List Tm)(kd:Int)(i:Nat)(b left:Int)(long:Bool),(O7 ls l kd i b left long).1.length=l.length|[],_,_,_,_,_=>by rw[O7]|t::l,kd,i,b,left,long=>by rw[O7];exact congrArg (·+1) (zIS ls l kd (i+1) b _ _)
theorem zUZ(a:Tm)(b left:Int)(long:Bool)(h:a.Ok):(raT a b left long).1.Ok:=by
 unfold raT;split;·exact yZ _ _
 ·split;·exact yZ _ _
  ·exact gQ a b 0 h
mutual theorem zGT(ls:List Tm)(hls:∀a∈ls,a.Ok):∀(t:Tm)(b left:Int)(long:Bool),t.Ok->(B1 ls t b left long).1.Ok
 |.mk kd n l,b,left,long,h=>by
  rw[B1];split;·exact yZ _ _
  ·split
   ·split;·exact zUZ _ _ _ _ (hls _ (List.getElem_mem _))
    ·exact yZ _ _
   ·rw[Tm.Ok]at h⊢;rw[zIS];exact⟨h.1,zNL ls hls l kd 0 b _ _ h.2⟩theorem zNL(ls:List Tm)(hls:∀a∈ls,a.Ok):∀(l:List Tm)(kd:Int)(i:Nat)(b left:Int)(long:Bool),mU l->mU (O7 ls l kd i b left long).1|[],_,_,_,_,_,_=>by rw[O7,mU];trivial|t::l,kd,i,b,left,long,h=>by rw[mU]at h;rw[O7,mU];exact⟨zGT ls hls t _ _ _ h.1,zNL ls hls l kd (i+1) b _ _ h.2⟩end
mutual theorem zIT(ls:List Tm)(hls:∀a∈ls,a.Ok)(hlen:ls.length<=1152921504606846976):∀(t:Tm)(b left:Int)(long:Bool),xP t=true->0<=b->b+t.high<=1152921504606846976->mG left long->zB (λq=>oN q left long ls t b) (B1 ls t b left long)|.mk kd n l,b,left,long,hg,hb,hb2,hl=>by refine zB.succ ?_;simp only[oN];have hh:=wU hg;have hn:=mC hh.1;rw[Tm.high]at hb2;rw[B1];cases long with|true=>exact zB.ifT rfl ((mY 0).bind (zB.ret.eq (by simp)))|false=>
   refine zB.ifF rfl ?_;rw[if_neg (by simp)];have hloose:zB (λq=>zQW q (.mk kd n l) b) (if kd=1/\b<=n then n-b else-1):=by
    refine zB.mk λq=>?_;unfold zQW;simp only[Tm.k,Tm.n];by_cases h1:kd=1
    ·by_cases h2:n<b;·simp[h1,h2,show¬b<=n by omega]
     ·simp[h1,h2,show b<=n by omega];exact zS (by omega) (by omega)
    ·simp[h1]
   by_cases h1:kd=1/\b<=n
   ·rw[if_pos h1]at hloose⊢;have hleaf:zB (λq=>kM q (.mk kd n l) b ls left false) (let r:=(if h:(n-b).toNat<ls.length then raT (ls[(n-b).toNat]) b left false else(.mk 1 (n-ls.length) [],left,false));(r.1,true,r.2.1,r.2.2)):=by
     simp only[kM];refine hloose.bind (zB.ifF (decide_eq_false (by omega)) ?_);by_cases h2:(n-b).toNat<ls.length
     ·rw[dif_pos h2];refine zB.ifT (decide_eq_true (by omega)) (zB.pure (a:=ls[(n-b).toNat]) ?_ ((zKI ls _ b left false (hls _ (List.getElem_mem _)) hl).bind zB.ret));unfold zO;rw[if_pos (by omega)];exact List.getElem?_eq_getElem h2
     ·rw[dif_neg h2];refine zB.ifF (decide_eq_false (by omega)) ?_;simp only[Tm.n];rw[zS (by omega) (by omega)];exact(sU _).bind zB.ret
    exact hleaf.bind (zB.ifT rfl zB.ret)
   ·rw[if_neg h1]at hloose⊢;have hleaf:zB (λq=>kM q (.mk kd n l) b ls left false) (.mk 0 0 [],false,left,false):=by simp only[kM];exact hloose.bind (zB.ifT rfl zB.ret)
    refine hleaf.bind (zB.ifF rfl ?_);have h0:=hl.2.2 rfl;have h3:=hl.2.1;rw[zS (x:=left-1) (by omega) (by omega)];have go:∀lg:Bool,lg=decide (left-1<0)->zB (λq=>vI q ls (.mk kd n l) b 0 (left-1) lg []) (let r:=O7 ls l kd 0 b (left-1) (decide (left-1<0));(.mk kd n r.1,r.2.1,r.2.2)):=λlg hlg=>by subst hlg;refine(zNM ls hls hlen l (.mk kd n l) 0 b (left-1) _ [] rfl hh.2 (by have:=hn.2.2.2.2;exact this) hb (by omega) ⟨by omega,by omega,λh2=>?_⟩ (by simp)).eq (by simp[Tm.k,Tm.n]);simp at h2;omega
    by_cases h4:left-1<0;·exact zB.ifT (decide_eq_true h4) (go true (by simp[h4]))
    ·exact zB.ifF (decide_eq_false h4) (go false (by simp[h4]))theorem zNM(ls:List Tm)(hls:∀a∈ls,a.Ok)(hlen:ls.length<=1152921504606846976):∀(l:List Tm)(p:Tm)(v:Nat)(b left:Int)(long:Bool)(acc:List Tm),p.sub.drop v=l->wT l=true->p.sub.length<=2->0<=b->b+1+vC l<=1152921504606846976->mG left long->acc.length<=v->zB (λq=>vI q ls p b (v:Int) left long acc) (.mk p.k p.n (acc++(O7 ls l p.k v b left long).1),(O7 ls l p.k v b left long).2.1,(O7 ls l p.k v b left long).2.2)
 |[],p,v,b,left,long,acc,hd,hg,hl2,hb,hb2,hl,ha=>by refine zB.succ ?_;simp only[vI];exact zB.ifF (yE hd) (zB.ret.eq (by rw[O7];simp))|t::l,p,v,b,left,long,acc,hd,hg,hl2,hb,hb2,hl,ha=>by
  have hlt:=yK hd;have hgc:=wV hg;rw[vC]at hb2;refine zB.succ ?_;simp only[vI];refine zB.ifT (yD hd) (zB.pure (zY hd) ?_);have next:∀x:Tm×Int×Bool,mG x.2.1 x.2.2->zB (λq=>yT 40 acc [x.1]>>=λl15=>vI q ls p b (yJ ((v:Int)+1)) x.2.1 x.2.2 l15) (.mk p.k p.n (acc++x.1::(O7 ls l p.k (v+1) b x.2.1 x.2.2).1),(O7 ls l p.k (v+1) b x.2.1 x.2.2).2.1,(O7 ls l p.k (v+1) b x.2.1 x.2.2).2.2):=λx hx=>by refine zB.pure (zW (by simp<;>omega)) ?_;rw[zV v (by omega)];exact(zNM ls hls hlen l p (v+1) b x.2.1 x.2.2 (acc++[x.1]) (zR hd) hgc.2 hl2 hb (by omega) hx (by simp<;>omega)).eq (by simp)
  rw[O7];by_cases h1:v=1
  ·subst h1;refine zB.ifT rfl ?_;by_cases h5:p.k=5
   ·refine zB.ifF (by simp[h5]) ?_;have e:sP p.k 1 b=b:=by unfold sP;simp[h5]
    rw[e];exact(zIT ls hls hlen t b left long hgc.1 hb (by omega) hl).bind (next _ (S5 ls t b left long hl))
   ·refine zB.ifT (by simp[h5]) ?_;have e:sP p.k 1 b=b+1:=by unfold sP;simp[h5]
    rw[e,zS (x:=b+1) (by omega) (by omega)];exact(zIT ls hls hlen t (b+1) left long hgc.1 (by omega) (by omega) hl).bind (next _ (S5 ls t (b+1) left long hl))
  ·refine zB.ifF (by simp<;>omega) ?_;have e:sP p.k v b=b:=by unfold sP;simp[h1]
   rw[e];exact(zIT ls hls hlen t b left long hgc.1 hb (by omega) hl).bind (next _ (S5 ls t b left long hl))end
def gR(t:Tm)(ls:List Tm):Tm×Int:=if zJ t=true/\(ls.all zJ)=true then(if(B1 ls t 0 8192 false).2.2=true then(zT,2)else if zJ (B1 ls t 0 8192 false).1=true then((B1 ls t 0 8192 false).1,0)else(zT,2))else(zT,5)
theorem zVz(t:Tm)(ls:List Tm)(h:zJ t=true)(ho:t.Ok)(hls:∀a∈ls,a.Ok)(hlen:ls.length<=1152921504606846976):zB (λq=>E4 q t ls) (if(B1 ls t 0 8192 false).2.2=true then(zT,2)else if zJ (B1 ls t 0 8192 false).1=true then((B1 ls t 0 8192 false).1,0)else(zT,2)):=by
 simp only[E4];have hs:=zK h;refine zB.bind (a:=()) (zB.mk λ_=>rfl) ((zIT ls hls hlen t 0 8192 false hs.2.2 (by omega) (by omega) ⟨by omega,by omega,λ_=>by omega⟩).bind ?_);by_cases h1:(B1 ls t 0 8192 false).2.2=true;·rw[if_pos h1];exact zB.ifT h1 zB.ret
 ·rw[if_neg h1];refine zB.ifF (by simpa using h1) ((xR _ (zGT ls hls t 0 8192 false ho)).bind ?_);by_cases h2:zJ (B1 ls t 0 8192 false).1=true;·rw[if_pos h2,if_pos h2];exact zB.ret
  ·rw[if_neg h2,if_neg h2];exact zB.ret
theorem zEE(t:Tm)(ls:List Tm)(h:zJ t=true)(ho:t.Ok)(hls:∀a∈ls,a.Ok)(hlen:ls.length<=1152921504606846976):∀(r:List Tm)(v:Nat),ls.drop v=r->zB (λq=>eE q t ls (v:Int)) (if(r.all zJ)=true then(if(B1 ls t 0 8192 false).2.2=true then(zT,2)else if zJ (B1 ls t 0 8192 false).1=true then((B1 ls t 0 8192 false).1,0)else(zT,2))else(zT,5))
 |[],v,hd=>by refine zB.succ ?_;simp only[eE];exact zB.ifF (yE hd) ((zVz t ls h ho hls hlen).bind (zB.ret.eq (by simp)))|x::r,v,hd=>by
  have hlt:=yK hd;have hx:x∈ls:=by
   have:x∈ls.drop v:=by rw[hd];simp
   exact List.mem_of_mem_drop this
  refine zB.succ ?_;simp only[eE];refine zB.ifT (yD hd) (zB.pure (zY hd) ((xR x (hls x hx)).bind ?_));by_cases h1:zJ x=true
  ·refine zB.ifT h1 ?_;rw[zV v (by omega)];exact(zEE t ls h ho hls hlen r (v+1) (zR hd)).eq (by simp[h1])
  ·exact zB.ifF (by simpa using h1) (zB.ret.eq (by simp[h1,zT]))
theorem S6(t:Tm)(ls:List Tm)(ho:t.Ok)(hls:∀a∈ls,a.Ok)(hlen:ls.length<=1152921504606846976):zB (λq=>zGS q t ls) (gR t ls):=by
 simp only[zGS];refine(xR t ho).bind ?_;unfold gR;by_cases h:zJ t=true
 ·refine zB.ifT h ((zEE t ls h ho hls hlen ls 0 rfl).eq ?_);simp[h]
 ·exact zB.ifF (by simpa using h) (zB.ret.eq (by simp[h,zT]))
theorem zNN(t a:Tm)(ho:t.Ok)(ha:a.Ok):zB (λq=>zNK q t a) (gR t [a]):=by simp only[zNK];exact(S6 t [a] ho (by simpa using ha) (by simp)).bind zB.ret
theorem E5(t:Tm)(ls:List Tm)(ho:t.Ok)(hls:∀a∈ls,a.Ok):(gR t ls).1.Ok:=by
 unfold gR;split
 ·split;·exact O8
  ·split;·exact zGT ls hls t 0 8192 false ho
   ·exact O8
 ·exact O8
def eF:Nat->Int->Int->(Tm×yA)->Int->Option (Bool)
 |0,_,_,_,_=>none|d+1,b,c,r1,a=>if decide (a<b)then zO r1.2 a>>=λx7=>if x7.k !=1 then some false else if x7.n !=(yJ ((yJ (c-1))-a))then some false else eF d b c r1 (yJ (a+1))else some true
def zKJ(d:Nat)(e:Tm)(f b g c:Int):Option (Bool):=E0 d e>>=λr1=>if r1.1.k !=6 then some false else if r1.1.n !=f then some false else if(r1.2.length:Int)!=(yJ (b+g))then some false else eF d b c r1 0
theorem zQZ:∀d:Nat,∀b c r1 a,Lz (eF d b c r1 a) 0 f209 (pt 16309 f209) (λj=>sp j 59 0 [(4,ai c),(12,zC zA r1.2 .no),(36,ai b),(37,ai a)]) ⟨[],0,[],0,[]⟩ (λr=>ab r) (λ_=>[]) 0 [.blk 0,.seq (pt 255 f209)]:=xF (λ_ _ _ _=>lN) λd ih=>λb c r1 a=>lw λ_=>rB 0 (rH λ_ h8=>rS (oA 0 (xA (o:=.no) h8))<|rB 1 (lE 0)<|rS (oA 0 (xA (o:=.no) h8))<|rB 3 (lE 0)<|lH 1 [] [] [] [4,12,36,37] (ih _ _ _ _))<|lE 0
theorem zVy{d e f b g c}:Cz (zKJ d e f b g c) 209 [] [yL e,ai f,ai b,ai g,ai c] (λr=>ab r) (λ_=>[]) 0:=fw func209<|rC 1 [] zGP λ_=>rB 4 (fE 0)<|rB 1 (fE 0)<|rB 2 (fE 0)<|fH 0 [] [] [] [4,12,36,37] (zQZ _ _ _ _ _)
def K0:Nat->Int->Int->yA->Int->Int->yA->Option (yA×Tm×Int)|0,_,_,_,_,_,_=>none|f+1,d,e,g,b,c,a=>if decide (e<d)then if b !=3 then some ([],(Tm.mk 0 0 []),6)else zO a 0>>=λx10=>yT 40 g [x10]>>=λl12=>zO a 1>>=λx14=>K0 f d (yJ (e+1)) l12 x14.k x14.n x14.sub else some (g,(Tm.mk b c a),0)
def e91(f:Nat)(m:Tm)(d:Int):Option (yA×Tm×Int):=qV f m>>=λr1=>if r1 then if decide (d<0)then some ([],(Tm.mk 0 0 []),5)else if decide (d>24)then some ([],(Tm.mk 0 0 []),2)else e96 f m>>=λr6=>K0 f d 0 [] r6.k r6.n r6.sub else some ([],(Tm.mk 0 0 []),5)
theorem zVx:∀f:Nat,∀d e g b c a,Lz (K0 f d e g b c a) 0 f91 (pt 65461 f91) (λj=>sp j 45 0 [(5,.mp 0 0),(7,zC zA g (.st 0 3)),(8,.mp 1 0),(24,ai d),(25,ai e)]) ⟨[(0,.cells [ai 0,ai 0,zC zA ([]:yA) .nl]),(1,.cells [ai b,ai c,zC zA a .no])],2,[0],1,[]⟩ (λr=>.tup [.sl (zH zA r.1) r.1.length .no,yL r.2.1,ai r.2.2]) (λ_=>[]) 0 [.blk 1,.seq (pt 1023 f91)]:=xF (λ_ _ _ _ _ _=>lN) λf ih=>λd e g b c a=>lw λ_=>rB 0 (rB 1 (lE 1)<|rA 1 (xA (o:=.no)) λx10=>rS (oS 1 (yU xH [x10]))<|rW (λh13=>oP 0 (xY h13 (by simp))) λ_=>rA 1 (xA (o:=.no)) λ_=>lH 3 [] [0,1] [1] [5,7,8,24,25] (ih _ _ _ _ _ _))<|lE 2
theorem c91{f m d}:Cz (e91 f m d) 91 [] [yL m,ai d] (λr=>.tup [.sl (zH zA r.1) r.1.length .no,yL r.2.1,ai r.2.2]) (λ_=>[]) 0:=fw func91<|rK 1 [] pP (λ_=>rB 1 (fE 1)<|rB 0 (fE 1)<|rC 1 [] c96 λ_=>fH 1 [(none,7,3)] [1,2] [0] [5,7,8,24,25] (zVx _ _ _ _ _ _ _)) λ_=>fE 2
def K1:Nat->Tm->Int->Int->Int->yA->Option (yA×Tm×Int)|0,_,_,_,_,_=>none|e+1,d,f,b,c,a=>if b==3 then if(a.length:Int)==2 then if decide (f<=24)then zO a 1>>=λx4=>K1 e d (yJ (f+1)) x4.k x4.n x4.sub else e91 e d f>>=λr6=>some (r6.1,r6.2.1,r6.2.2)else e91 e d f>>=λr8=>some (r8.1,r8.2.1,r8.2.2)else e91 e d f>>=λr10=>some (r10.1,r10.2.1,r10.2.2)
def e99(e:Nat)(d:Tm):Option (yA×Tm×Int):=K1 e d 0 d.k d.n d.sub
theorem zVv:∀e:Nat,∀d f b c a,Lz (K1 e d f b c a) 0 f99 (pt 4021 f99) (λj=>sp j 34 0 [(1,.mp 0 0),(3,.mp 1 0),(5,ai f),(6,.mp 2 0)]) ⟨[(0,.cells [ai d.k,ai d.n,zC zA d.sub .no]),(1,.cells [ai 0,ai 0,zC zA ([]:yA) .nl]),(2,.cells [ai b,ai c,zC zA a .no])],3,[],0,[]⟩ (λr=>.tup [.sl (zH zA r.1) r.1.length .no,yL r.2.1,ai r.2.2]) (λ_=>[]) 0 [.blk 0,.seq (pt 63 f99)]:=xF (λ_ _ _ _ _=>lN) λe ih=>λd f b c a=>lw λ_=>rB 1 (rB 2 (rB 0 (rA 4 (xA (o:=.no)) λ_=>lH 2 [] [0,1,3] [] [1,3,5,6] (ih _ _ _ _ _))<|rC 1 [] c91 λ_=>lE 4)<|rC 1 [] c91 λ_=>lE 4)<|rC 1 [] c91 λ_=>lE 4
theorem c99{e d}:Cz (e99 e d) 99 [] [yL d] (λr=>.tup [.sl (zH zA r.1) r.1.length .no,yL r.2.1,ai r.2.2]) (λ_=>[]) 0:=fw func99<|fH 2 [] [0,1,2] [] [1,3,5,6] (zVv _ _ _ _ _ _)
def iV:Nat->Tm->Option (List Tm×Tm)|0,t=>some ([],t)|n+1,.mk k _ [a,b]=>if k=3 then(iV n b).map λr=>(a::r.1,r.2)else none|_+1,_=>none
theorem zCi(n:Nat)(m:Int)(a b:Tm):iV (n+1) (.mk 3 m [a,b])=(iV n b).map λr=>(a::r.1,r.2):=by rw[iV,if_pos rfl]
theorem Z4{n:Nat}{t:Tm}(h:t.k≠3):iV (n+1) t=none:=by
 unfold iV;split;·rename_i h1;cases h1
 ·rename_i h1;exact if_neg h
 ·rfl
theorem E6{t:Tm}(hg:xP t=true)(h:t.k=3):∃a b,t=.mk 3 t.n [a,b]/\xP a=true/\xP b=true:=by obtain⟨k,n,l⟩:=t;have hh:=wU hg;have hs:=tR hh.1;replace h:k=3:=h;subst h;obtain⟨a,b,rfl⟩:=zQU (hs.2.2.2.2.2.1 (.inl rfl)).1;have hc:=wV hh.2;exact⟨a,b,rfl,hc.1,(wV hc.2).1⟩
def zCh(acc:List Tm):Option (List Tm×Tm)->List Tm×Tm×Int|none=>([],zT,6)|some r=>(acc++r.1,r.2,0)
theorem zKK(N:Nat)(hN:N<=24):∀(m v:Nat)(acc:List Tm)(x:Tm),v+m=N->xP x=true->acc.length<=v->zB (λq=>K0 q (N:Int) (v:Int) acc x.k x.n x.sub) (zCh acc (iV m x)):=by intro m;induction m with|zero=>intro v acc x hm hg ha;refine zB.succ ?_;simp only[K0];refine zB.ifF (decide_eq_false (by omega)) (zB.ret.eq ?_);rw[iV,zCh,vF];simp|succ m ih=>
 intro v acc x hm hg ha;refine zB.succ ?_;simp only[K0];refine zB.ifT (decide_eq_true (by omega)) ?_;by_cases h:x.k=3;·obtain⟨a,b,hx,hga,hgb⟩:=E6 hg h;refine zB.ifF (by simp[h]) ?_;rw[hx,zCi];refine zB.pure (a:=a) rfl (zB.pure (zW (by simp<;>omega)) (zB.pure (a:=b) rfl ?_));rw[zV v (by omega)];refine(ih (v+1) (acc++[a]) b (by omega) hgb (by simp<;>omega)).eq ?_;cases iV m b<;>simp[zCh]
 ·rw[Z4 h,zCh];exact zB.ifT (by simp[h]) zB.ret
def wN(t:Tm)(n:Int):List Tm×Tm×Int:=if zJ t=true then(if n<0 then([],zT,5)else if n>24 then([],zT,2)else zCh [] (iV n.toNat t))else([],zT,5)
theorem gS(t:Tm)(n:Int)(ho:t.Ok):zB (λq=>e91 q t n) (wN t n):=by
 simp only[e91];refine(xR t ho).bind ?_;unfold wN;by_cases h:zJ t=true
 ·rw[if_pos h];refine zB.ifT h ?_;by_cases h1:n<0;·rw[if_pos h1];exact zB.ifT (decide_eq_true h1) zB.ret
  ·rw[if_neg h1];refine zB.ifF (decide_eq_false h1) ?_;by_cases h2:n>24;·rw[if_pos h2];exact zB.ifT (decide_eq_true h2) zB.ret
   ·rw[if_neg h2];refine zB.ifF (decide_eq_false h2) ((nN t ho).bind ?_);unfold kJ;rw[if_pos h];have:=zKK n.toNat (by omega) n.toNat 0 [] t (by omega) (zK h).2.2 (by simp);rw[show((n.toNat:Nat):Int)=n by omega]at this;exact this
 ·rw[if_neg h];exact zB.ifF (by simpa using h) zB.ret
def uS:Tm->Nat|.mk k _ [_,b]=>if k=3 then uS b+1 else 0|_=>0
theorem S7(m:Int)(a b:Tm):uS (.mk 3 m [a,b])=uS b+1:=by rw[uS,if_pos rfl]
theorem zGU{t:Tm}(h:t.k≠3):uS t=0:=by
 unfold uS;split;·exact if_neg h
 ·rfl
theorem zNP{t:Tm}(h:t.sub.length≠2):uS t=0:=by
 unfold uS;split;·exact absurd rfl h
 ·rfl
def yY(t:Tm):List Tm×Tm×Int:=wN t ((min (uS t) 25:Nat):Int)
theorem zKL(p:Tm)(ho:p.Ok):∀(m v:Nat)(x:Tm),v+m=25->zB (λq=>K1 q p (v:Int) x.k x.n x.sub) (wN p ((min (v+uS x) 25:Nat):Int)):=by intro m;induction m with|zero=>
 intro v x hm;refine zB.succ ?_;simp only[K1];have hv:v=25:=by omega
 subst hv;have hsp:zB (λq=>e91 q p ((25:Nat):Int)>>=λr6=>some (r6.1,r6.2.1,r6.2.2)) (wN p ((min (25+uS x) 25:Nat):Int)):=((gS p _ ho).bind zB.ret).eq (by rw[show min (25+uS x) 25=25 by omega]);exact zB.iff (λ_=>zB.iff (λ_=>zB.ifF rfl hsp) λ_=>hsp) λ_=>hsp|succ m ih=>
 intro v x hm;refine zB.succ ?_;simp only[K1];have hsp:uS x=0->zB (λq=>e91 q p (v:Int)>>=λr6=>some (r6.1,r6.2.1,r6.2.2)) (wN p ((min (v+uS x) 25:Nat):Int)):=λh=>((gS p _ ho).bind zB.ret).eq (by rw[h,show min (v+0) 25=v by omega]);by_cases h3:x.k=3
 ·refine zB.ifT (by simp[h3]) ?_;by_cases h2:x.sub.length=2
  ·refine zB.ifT (by simp[h2]) (zB.ifT (decide_eq_true (by omega)) ?_);obtain⟨k,n,l⟩:=x;replace h3:k=3:=h3;subst h3;obtain⟨a,b,rfl⟩:=zQU h2;refine zB.pure (a:=b) rfl ?_;rw[zV v (by omega),S7];exact(ih (v+1) b (by omega)).eq (by rw[show v+1+uS b=v+(uS b+1)by omega])
  ·exact zB.ifF (by simp<;>omega) (hsp (zNP h2))
 ·exact zB.ifF (by simp[h3]) (hsp (zGU h3))
theorem E7(t:Tm)(ho:t.Ok):zB (λq=>e99 q t) (yY t):=by simp only[e99];exact(zKL t ho 25 0 t rfl).eq (by unfold yY;simp)
theorem zAK:∀(n:Nat)(t:Tm)(r:List Tm×Tm),xP t=true->iV n t=some r->r.1.length=n/\uS t=n+uS r.2/\(xP r.2=true/\r.2.nodes<=t.nodes/\r.2.high<=t.high)/\∀x∈r.1,xP x=true/\x.nodes<=t.nodes/\x.high<=t.high
 |0,t,r,hg,h=>by rw[iV]at h;cases h;exact⟨rfl,by simp,⟨hg,Nat.le_refl _,Nat.le_refl _⟩,λx hx=>by cases hx⟩|n+1,t,r,hg,h=>by
  by_cases h3:t.k=3
  ·obtain⟨a,b,hx,hga,hgb⟩:=E6 hg h3;rw[hx]at h⊢;rw[zCi]at h;obtain⟨r',h1,rfl⟩:=Option.map_eq_some_iff.1 h;have ih:=zAK n b r' hgb h1;rw[S7];simp only[Tm.nodes,yR,Tm.high,vC];refine⟨by simp[ih.1],by omega,⟨ih.2.2.1.1,by omega,by omega⟩,λx hx=>?_⟩;rcases List.mem_cons.1 hx with rfl|hx;·exact⟨hga,by omega,by omega⟩
   ·have:=ih.2.2.2 x hx;exact⟨this.1,by omega,by omega⟩
  ·rw[Z4 h3]at h;cases h
theorem K2{t:Tm}{n:Int}{l:List Tm}{y:Tm}(h:wN t n=(l,y,0)):zJ t=true/\0<=n/\n<=24/\(l.length:Int)=n/\uS t=l.length+uS y/\zJ y=true/\∀x∈l,zJ x=true:=by
 unfold wN at h;split at h
 ·rename_i hs;split at h;·simp at h
  ·split at h;·simp at h
   ·cases hr:iV n.toNat t with|none=>rw[hr]at h;simp[zCh]at h|some r=>rw[hr]at h;simp only[zCh,List.nil_append,Prod.mk.injEq,and_true]at h;obtain⟨rfl,rfl⟩:=h;have hsp:=zK hs;have:=zAK _ _ _ hsp.2.2 hr;refine⟨hs,by omega,by omega,by omega,by omega,mF (by omega) (by omega) this.2.2.1.1,λx hx=>?_⟩;have hx:=this.2.2.2 x hx;exact mF (by omega) (by omega) hx.1
 ·simp at h
theorem rV{t:Tm}{l:List Tm}{y:Tm}(h:yY t=(l,y,0)):zJ t=true/\l.length=uS t/\l.length<=24/\uS y=0/\zJ y=true/\∀x∈l,zJ x=true:=by have:=K2 h;refine⟨this.1,by omega,by omega,by omega,this.2.2.2.2.2.1,this.2.2.2.2.2.2⟩
def zEF:List Tm->Int->Bool|[],_=>true|a::l,n=>a.k==1&&a.n==n&&zEF l (n-1)
def qZ(t:Tm)(of pars more binders:Int):Bool:=(zZ t).k==6&&(zZ t).n==of&&((yW t).length:Int)==pars+more&&zEF ((yW t).take pars.toNat) (binders-1)
theorem zEG(p:Tm×List Tm)(P:Nat)(binders:Int)(hP:P<=p.2.length)(hl:p.2.length<=8192)(hb:-1152921504606846976<=binders/\binders<=1152921504606846976):∀(m v:Nat),v+m=P->zB (λq=>eF q (P:Int) binders p (v:Int)) (zEF ((p.2.take P).drop v) (binders-1-v)):=by intro m;induction m with|zero=>intro v hm;refine zB.succ ?_;simp only[eF];refine zB.ifF (decide_eq_false (by omega)) (zB.ret.eq ?_);rw[List.drop_eq_nil_of_le (by simp<;>omega),zEF]|succ m ih=>
 intro v hm;refine zB.succ ?_;simp only[eF];have hv:v<(p.2.take P).length:=by simp<;>omega
 have hd:=List.drop_eq_getElem_cons hv;have hg:zO p.2 (v:Int)=some (p.2.take P)[v]:=by unfold zO;rw[if_pos (by omega),show(v:Int).toNat=v by omega,List.getElem?_eq_getElem (by omega)];simp
 generalize(p.2.take P)[v]=x at hd hg;refine zB.ifT (decide_eq_true (by omega)) (zB.pure hg ?_);rw[hd,zEF,zS (x:=binders-1) (by omega) (by omega),zS (x:=binders-1-v) (by omega) (by omega)];by_cases h1:x.k=1
 ·refine zB.ifF (by simp[h1]) ?_;by_cases h2:x.n=binders-1-v
  ·refine zB.ifF (by simp[h2]) ?_;rw[zV v (by omega)];refine(ih (v+1) (by omega)).eq ?_;rw[show binders-1-((v+1:Nat):Int)=binders-1-v-1 by omega];simp[h1,h2]
  ·exact zB.ifT (by simp[h2]) (zB.ret.eq (by simp[h2]))
 ·exact zB.ifT (by simp[h1]) (zB.ret.eq (by simp[h1]))
theorem aL(t:Tm)(of pars more binders:Int)(hs:zJ t=true)(h0:0<=pars/\pars<=1152921504606846976)(h1:0<=more/\more<=1152921504606846976)(hb:-1152921504606846976<=binders/\binders<=1152921504606846976):zB (λq=>zKJ q t of pars more binders) (qZ t of pars more binders):=by
 simp only[zKJ];refine(kK t hs).bind ?_;unfold qZ;by_cases h2:(zZ t).k=6
 ·refine zB.ifF (by simp[h2]) ?_;by_cases h3:(zZ t).n=of
  ·refine zB.ifF (by simp[h3]) ?_;rw[zS (x:=pars+more) (by omega) (by omega)];by_cases h4:((yW t).length:Int)=pars+more
   ·refine zB.ifF (by simp[h4]) ?_;have hl:=sT t (zK hs).2.2;have hn:=(zK hs).1;have:=zEG (zZ t,yW t) pars.toNat binders (by show _<=(yW t).length;omega) (by show(yW t).length<=_;omega) hb pars.toNat 0 (by omega);rw[show((pars.toNat:Nat):Int)=pars by omega]at this;exact this.eq (by simp[h2,h3,h4])
   ·exact zB.ifT (by simp[h4]) (zB.ret.eq (by simp[h4]))
  ·exact zB.ifT (by simp[h3]) (zB.ret.eq (by simp[h3]))
 ·exact zB.ifT (by simp[h2]) (zB.ret.eq (by simp[h2]))
def zGV(b:Nat)(a:Int):Option (Bool):=if decide (a>=0)then if decide (a<=1114111)then if decide (a<55296)then some true else some (decide (a>57343))else some false else some false
theorem zRz{b a}:Cz (zGV b a) 239 [] [ai a] (λr=>ab r) (λ_=>[]) 0:=fw func239<|rB 0 (rB 0 (rB 0 (fE 0)<|fE 1)<|fE 0)<|fE 0
def zRy(b:Nat)(a:U8):Option (Int×Int):=if decide (a<128)then some (1,(yJ (a)))else if decide (a>=192)then if decide (a<224)then some (2,(yJ ((IntKind.u8.wrap ((BitVec.ofInt (IntKind.bits .u8) a&&&BitVec.ofInt (IntKind.bits .u8) 31).toNat:Nat)))))else if decide (a>=224)then if decide (a<240)then some (3,(yJ ((IntKind.u8.wrap ((BitVec.ofInt (IntKind.bits .u8) a&&&BitVec.ofInt (IntKind.bits .u8) 15).toNat:Nat)))))else if decide (a>=240)then if decide (a<248)then some (4,(yJ ((IntKind.u8.wrap ((BitVec.ofInt (IntKind.bits .u8) a&&&BitVec.ofInt (IntKind.bits .u8) 7).toNat:Nat)))))else some (0,0)else some (0,0)else if decide (a>=240)then if decide (a<248)then some (4,(yJ ((IntKind.u8.wrap ((BitVec.ofInt (IntKind.bits .u8) a&&&BitVec.ofInt (IntKind.bits .u8) 7).toNat:Nat)))))else some (0,0)else some (0,0)else if decide (a>=224)then if decide (a<240)then some (3,(yJ ((IntKind.u8.wrap ((BitVec.ofInt (IntKind.bits .u8) a&&&BitVec.ofInt (IntKind.bits .u8) 15).toNat:Nat)))))else if decide (a>=240)then if decide (a<248)then some (4,(yJ ((IntKind.u8.wrap ((BitVec.ofInt (IntKind.bits .u8) a&&&BitVec.ofInt (IntKind.bits .u8) 7).toNat:Nat)))))else some (0,0)else some (0,0)else if decide (a>=240)then if decide (a<248)then some (4,(yJ ((IntKind.u8.wrap ((BitVec.ofInt (IntKind.bits .u8) a&&&BitVec.ofInt (IntKind.bits .u8) 7).toNat:Nat)))))else some (0,0)else some (0,0)
theorem yAu{b a}:Cz (zRy b a) 273 [] [.val (.int .u8 a)] (λr=>.tup [ai r.1,ai r.2]) (λ_=>[]) 0:=fw func273<|rB 0 (fE 1)<|rB 0 (rB 0 (fE 2)<|rB 0 (rB 0 (fE 2)<|rB 0 (rB 0 (fE 2)<|fE 0)<|fE 0)<|rB 0 (rB 0 (fE 2)<|fE 0)<|fE 0)<|rB 0 (rB 0 (fE 2)<|rB 0 (rB 0 (fE 2)<|fE 0)<|fE 0)<|rB 0 (rB 0 (fE 2)<|fE 0)<|fE 0
def zGW(b:Nat)(a:Int):Option (Int):=if decide (a>=65536)then some 4 else if decide (a>=2048)then some 3 else if decide (a>=128)then some 2 else some 1
theorem zXR{b a}:Cz (zGW b a) 274 [] [ai a] (λr=>ai r) (λ_=>[]) 0:=fw func274<|rB 0 (fE 3)<|rB 0 (fE 2)<|rB 0 (fE 1)<|fE 0
def eG:Nat->ByteArray->Int->(Int×Int)->Int->Int->Option (Int×Int×Int)
 |0,_,_,_,_,_=>none|c+1,b,a,r5,d,e=>if decide (e<r5.1)then O0 b (yJ (a+e))>>=λx10=>if(IntKind.u8.wrap ((BitVec.ofInt (IntKind.bits .u8) x10&&&BitVec.ofInt (IntKind.bits .u8) 192).toNat:Nat))!=128 then some (0,0,1)else eG c b a r5 (IntKind.i64.wrap ((BitVec.ofInt (IntKind.bits .i64) (yJ (d*2^(min (Int.toNat 6) (IntKind.bits .i64))))|||BitVec.ofInt (IntKind.bits .i64) (yJ ((IntKind.u8.wrap ((BitVec.ofInt (IntKind.bits .u8) x10&&&BitVec.ofInt (IntKind.bits .u8) 63).toNat:Nat))))).toNat:Nat)) (yJ (e+1))else zGV c d>>=λr13=>if r13 then zGW c d>>=λr16=>if r16 !=r5.1 then some (0,0,1)else some (d,r5.1,0)else some (0,0,1)
def zRx(c:Nat)(b:ByteArray)(a:Int):Option (Int×Int×Int):=if decide (a<0)then some (0,0,1)else if decide (a>=(b.size:Int))then some (0,0,1)else O0 b a>>=λx3=>zRy c x3>>=λr5=>if r5.1==0 then some (0,0,1)else if decide (r5.1>(yJ ((b.size:Int)-a)))then some (0,0,1)else eG c b a r5 r5.2 1
theorem zRw:∀c:Nat,∀b a r5 d e,Lz (eG c b a r5 d e) 0 f222 (pt 65461 f222) (λj=>sp j 66 0 [(0,at' b),(1,ai a),(7,ai r5.1),(8,ai d),(9,ai e)]) ⟨[],0,[],0,[]⟩ (λr=>.tup [ai r.1,ai r.2.1,ai r.2.2]) (λ_=>[]) 0 [.blk 0,.seq (pt 1023 f222)]:=xF (λ_ _ _ _ _=>lN) λc ih=>λb a r5 d e=>lw λ_=>rB 0 (rA 1 zGL λ_=>rB 1 (lE 0)<|lH 5 [] [] [] [0,1,7,8,9] (ih _ _ _ _ _))<|rK 0 [] zRz (λ_=>rC 1 [] zXR λ_=>rB 0 (lE 0)<|lE 0) λ_=>lE 1
theorem yAt{c b a}:Cz (zRx c b a) 222 [] [at' b,ai a] (λr=>.tup [ai r.1,ai r.2.1,ai r.2.2]) (λ_=>[]) 0:=fw func222<|rB 0 (fE 0)<|rB 1 (fE 0)<|rA 0 zGL λ_=>rC 0 [] yAu λ_=>rB 2 (fE 0)<|rB 2 (fE 0)<|fH 0 [] [] [] [0,1,7,8,9] (zRw _ _ _ _ _ _)
def eH:Nat->ByteArray->yH->Int->Option (yH×Int×Int)|0,_,_,_=>none|b+1,a,d,c=>if decide (c<(a.size:Int))then zRx b a c>>=λr3=>if r3.2.2 !=0 then some ([],c,r3.2.2)else yT 8 d [r3.1]>>=λl6=>eH b a l6 (yJ (c+r3.2.1))else some (d,(a.size:Int),0)
def zNQ(b:Nat)(a:ByteArray):Option (yH×Int×Int):=if decide ((a.size:Int)>65535)then some ([],0,2)else eH b a [] 0
theorem zRv:∀b:Nat,∀a d c,Lz (eH b a d c) 0 f168 (pt 16309 f168) (λj=>sp j 38 0 [(0,at' a),(5,zC zQ d (.st 0 1)),(6,ai c)]) ⟨[],0,[0],1,[]⟩ (λr=>.tup [.sl (zH zQ r.1) r.1.length .no,ai r.2.1,ai r.2.2]) (λ_=>[]) 0 [.blk 0,.seq (pt 255 f168)]:=xF (λ_ _ _=>lN) λb ih=>λa d c=>lw λ_=>rB 1 (rC 0 [] yAt λ_=>rB 3 (lE 0)<|rW (λh7=>oP 1 (sO h7 (by simp))) λ_=>lH 1 [] [] [1] [0,5,6] (ih _ _ _))<|lE 1
theorem zXS{b a}:Cz (zNQ b a) 168 [] [at' a] (λr=>.tup [.sl (zH zQ r.1) r.1.length .no,ai r.2.1,ai r.2.2]) (λ_=>[]) 0:=fw func168<|rB 1 (fE 0)<|fH 0 [(none,5,1)] [] [0] [0,5,6] (zRv _ _ _ _)
def zKM(b:Nat)(a:ByteArray):Option (Bool):=if a.toList==(⟨#[100,97,116,97]⟩:ByteArray).toList then some true else if a.toList==(⟨#[114,101,99,111,114,100]⟩:ByteArray).toList then some true else if a.toList==(⟨#[100,101,102]⟩:ByteArray).toList then some true else if a.toList==(⟨#[83,101,116]⟩:ByteArray).toList then some true else some false
theorem zVu{b a}:Cz (zKM b a) 178 [] [at' a] (λr=>ab r) (λ_=>[]) 0:=fw func178<|rB 0 (fE 0)<|rB 0 (fE 0)<|rB 0 (fE 0)<|rB 0 (fE 0)<|fE 0
def zRu(b:Nat)(a:Int):Option (Bool):=if a==40 then some true else if a==41 then some true else if a==123 then some true else if a==125 then some true else if a==58 then some true else if a==61 then some true else if a==46 then some true else if a==44 then some true else if a==59 then some true else if a==124 then some true else if a==92 then some true else if a==45 then some true else if a==62 then some true else if a==955 then some true else if a==8594 then some true else some false
theorem yAs{b a}:Cz (zRu b a) 240 [] [ai a] (λr=>ab r) (λ_=>[]) 0:=fw func240<|rB 0 (fE 0)<|rB 0 (fE 0)<|rB 0 (fE 0)<|rB 0 (fE 0)<|rB 0 (fE 0)<|rB 0 (fE 0)<|rB 0 (fE 0)<|rB 0 (fE 0)<|rB 0 (fE 0)<|rB 0 (fE 0)<|rB 0 (fE 0)<|rB 0 (fE 0)<|rB 0 (fE 0)<|rB 0 (fE 0)<|rB 0 (fE 0)<|fE 0
def zGX(b:Nat)(a:Int):Option (Bool):=if decide (a<128)then if decide (a>=97)then if decide (a<=122)then some true else if decide (a>=65)then some (decide (a<=90))else some false else if decide (a>=65)then some (decide (a<=90))else some false else zGV b a>>=λr6=>if r6 then zRu b a>>=λr9=>if r9 then some false else if a !=160 then if decide (a<8192)then some true else some (decide (a>8303))else some false else some false
theorem zRt{b a}:Cz (zGX b a) 180 [] [ai a] (λr=>ab r) (λ_=>[]) 0:=fw func180<|rB 0 (rB 0 (rB 0 (fE 0)<|rB 0 (fE 1)<|fE 0)<|rB 0 (fE 1)<|fE 0)<|rK 0 [] zRz (λ_=>rK 0 [] yAs (λ_=>fE 1) λ_=>rB 1 (rB 0 (fE 0)<|fE 1)<|fE 0) λ_=>fE 0
def zEH(b:Nat)(a:Int):Option (Bool):=if decide (a>=48)then some (decide (a<=57))else some false
theorem zNR{b a}:Cz (zEH b a) 231 [] [ai a] (λr=>ab r) (λ_=>[]) 0:=fw func231<|rB 0 (fE 1)<|fE 0
def zRs(b:Nat)(a:Int):Option (Bool):=zGX b a>>=λr1=>if r1 then some true else zEH b a>>=λr4=>if r4 then some true else if a==95 then some true else some (a==39)
theorem yAr{b a}:Cz (zRs b a) 179 [] [ai a] (λr=>ab r) (λ_=>[]) 0:=fw func179<|rK 0 [] zRt (λ_=>fE 0) λ_=>rK 0 [] zNR (λ_=>fE 0) λ_=>rB 0 (fE 0)<|fE 1
def eI:Nat->(yH×Int×Int)->Int->Option (Bool)
 |0,_,_=>none|b+1,r1,a=>if decide (a<(r1.1.length:Int))then zO r1.1 a>>=λx10=>zRs b x10>>=λr12=>if r12 then eI b r1 (yJ (a+1))else some false else zO r1.1 0>>=λx15=>zGX b x15>>=λr17=>if r17 then some true else if x15==95 then some (decide ((r1.1.length:Int)>1))else some false
def kN(b:Nat)(c:ByteArray):Option (Bool):=zNQ b c>>=λr1=>if r1.2.2 !=0 then some false else if(r1.1.length:Int)==0 then some false else if decide ((c.size:Int)>40)then some false else zKM b c>>=λr6=>if r6 then some false else eI b r1 0
theorem zRr:∀b:Nat,∀r1 a,Lz (eI b r1 a) 0 f116 (pt 16309 f116) (λj=>sp j 55 0 [(3,zC zQ r1.1 .no),(30,zC zQ r1.1 .no),(31,ai (r1.1.length:Int)),(32,ai a)]) ⟨[],0,[],0,[]⟩ (λr=>ab r) (λ_=>[]) 0 [.blk 0,.seq (pt 255 f116)]:=xF (λ_ _=>lN) λb ih=>λr1 a=>lw λ_=>rB 0 (rA 0 (sS (o:=.no)) λ_=>rK 1 [] yAr (λ_=>lH 2 [] [] [] [3,30,31,32] (ih _ _)) λ_=>lE 1)<|rH λ_ h16=>rS (oA 0 (sS (o:=.no) h16))<|rK 1 [] zRt (λ_=>lE 0) λ_=>rS (oA 0 (sS (o:=.no) h16))<|rB 1 (lE 2)<|lE 0
theorem E8{b c}:Cz (kN b c) 116 [] [at' c] (λr=>ab r) (λ_=>[]) 0:=fw func116<|rC 0 [] zXS λ_=>rB 3 (fE 0)<|rB 1 (fE 0)<|rB 1 (fE 0)<|rK 0 [] zVu (λ_=>fE 0) λ_=>fH 1 [] [] [] [3,30,31,32] (zRr _ _ _)
def K3:Nat->(List ByteArray)->Int->(List (ByteArray×Int))->Option (Bool)|0,_,_,_=>none|c+1,b,d,a=>if decide (d<(b.length:Int))then zO b d>>=λx2=>if decide ((X4 a x2)>0)then some false else K3 c b (yJ (d+1)) (Q7 a x2 (yJ ((X4 a x2)+1)))else some true
def e87(c:Nat)(b:List ByteArray):Option (Bool):=K3 c b 0 ([]:List (ByteArray×Int))
theorem zVt:∀c:Nat,∀b d a,Lz (K3 c b d a) 0 f87 (pt 4021 f87) (λj=>sp j 22 0 [(3,.obj 0),(7,zC xJ b .no),(8,ai (b.length:Int)),(9,ai d)]) ⟨[(0,X3 a)],1,[],0,[]⟩ (λr=>ab r) (λ_=>[]) 0 [.blk 0,.seq (pt 63 f87)]:=xF (λ_ _ _=>lN) λc ih=>λb d a=>lw λ_=>rB 0 (rA 0 (zQG (o:=.no)) λx2=>rS (oL 1 (zIJ a x2))<|rB 0 (lE 0)<|rS (oL 0 (zIJ a x2))<|rS (oU 1 (zUr a x2 (yJ ((X4 a x2)+1))))<|lH 1 [] [0] [] [3,7,8,9] (ih _ _ _))<|lE 0
theorem c87{c b}:Cz (e87 c b) 87 [] [zC xJ b .no] (λr=>ab r) (λ_=>[]) 0:=fw func87<|fH 1 [] [0] [] [3,7,8,9] (zVt _ _ _ _)
theorem zNS(c:Int):zD (λq=>zRy q c) λr=>0<=r.1/\r.1<=4:=by simp only[zRy];repeat'(first|exact zD.ret ⟨by simp,by simp⟩|refine zD.ite (λ_=>?_) (λ_=>?_))
theorem zKN(n:Int):zD (λq=>zGW q n) λ_=>True:=by simp only[zGW];repeat'(first|exact zD.ret trivial|refine zD.ite (λ_=>?_) (λ_=>?_))
theorem jQ(n:Int):zD (λq=>zGV q n) λ_=>True:=by simp only[zGV];repeat'(first|exact zD.ret trivial|refine zD.ite (λ_=>?_) (λ_=>?_))
theorem Z5{s:ByteArray}{i:Int}(h0:0<=i)(h1:i<s.size):∃c,O0 s i=some c:=by unfold O0;simp[h0,h1]
theorem zKO(s:ByteArray)(a:Int)(w:Int×Int)(ha:0<=a)(hs:s.size<=65535)(hw:a+w.1<=s.size)(hw1:1<=w.1):∀(m:Nat)(i n:Int),1<=i->i+m=w.1->zD (λq=>eG q s a w n i) λr=>r.2.2=0->r.2.1=w.1:=by intro m;induction m with|zero=>intro i n hi hm;refine zD.succ ?_;simp only[eG];refine zD.ite (λh=>absurd (of_decide_eq_true h) (by omega)) λ_=>(jQ n).bind λb _=>?_;refine zD.ite (λ_=>(zKN n).bind λc _=>zD.ite (λ_=>zD.ret (by simp)) λ_=>zD.ret (by simp)) λ_=>zD.ret (by simp)|succ m ih=>intro i n hi hm;refine zD.succ ?_;simp only[eG];obtain⟨c,hc⟩:=Z5 (s:=s) (i:=a+i) (by omega) (by omega);refine zD.ite (λ_=>zD.pure (a:=c) (by rw[zS (by omega) (by omega)];exact hc) (zD.ite (λ_=>zD.ret (by simp)) λ_=>?_)) λh=>absurd (of_decide_eq_false h) (by omega);rw[zS (x:=i+1) (by omega) (by omega)];exact ih (i+1) _ (by omega) (by omega)
theorem zNT(s:ByteArray)(a:Int)(ha:0<=a)(hs:s.size<=65535):zD (λq=>zRx q s a) λr=>r.2.2=0->1<=r.2.1/\a+r.2.1<=s.size:=by
 simp only[zRx];refine zD.ite (λ_=>zD.ret (by simp)) λ_=>zD.ite (λ_=>zD.ret (by simp)) λh=>?_;have h1:=of_decide_eq_false h;obtain⟨c,hc⟩:=Z5 (s:=s) (i:=a) ha (by omega);refine zD.pure hc ((zNS c).bind λw hw=>zD.ite (λ_=>zD.ret (by simp)) λh2=>zD.ite (λ_=>zD.ret (by simp)) λh3=>?_);have h4:=of_decide_eq_false h3;rw[zS (by omega) (by omega)]at h4;have h5:w.1≠0:=by simpa using h2
 refine(zKO s a w ha hs (by omega) (by omega) (w.1-1).toNat 1 w.2 (by omega) (by omega)).mono λr hr h6=>?_;have:=hr h6;omega
theorem zNU(s:ByteArray)(hs:s.size<=65535):∀(m:Nat)(a:Int)(acc:List Int),0<=a->a<=s.size->(s.size:Int)-a<=m->(acc.length:Int)<=a->zD (λq=>eH q s acc a) λr=>r.1.length<=65535:=by intro m;induction m with|zero=>intro a acc h0 h1 hm hl;refine zD.succ ?_;simp only[eH];refine zD.ite (λh=>absurd (of_decide_eq_true h) (by omega)) λ_=>zD.ret (by show acc.length<=65535;omega)|succ m ih=>intro a acc h0 h1 hm hl;refine zD.succ ?_;simp only[eH];refine zD.ite (λ_=>(zNT s a h0 hs).bind λr hr=>zD.ite (λ_=>zD.ret (by simp)) λh=>zD.pure (zW (by simp<;>omega)) ?_) λ_=>zD.ret (by show acc.length<=65535;omega);have:=hr (by simpa using h);rw[zS (by omega) (by omega)];exact ih (a+r.2.1) _ (by omega) (by omega) (by omega) (by simp;omega)
theorem zCg(s:ByteArray):zD (λq=>zNQ q s) λr=>r.1.length<=65535:=by simp only[zNQ];refine zD.ite (λ_=>zD.ret (by simp)) λh=>?_;have:=of_decide_eq_false h;exact zNU s (by omega) s.size 0 [] (by omega) (by omega) (by omega) (by simp)
theorem zNV(n:Int):zD (λq=>zRu q n) λ_=>True:=by simp only[zRu];repeat'(first|exact zD.ret trivial|refine zD.ite (λ_=>?_) (λ_=>?_))
theorem jR(n:Int):zD (λq=>zGX q n) λ_=>True:=by simp only[zGX];repeat'(first|exact zD.ret trivial|refine zD.ite (λ_=>?_) (λ_=>?_)|refine zD.bind (jQ n) (λ_ _=>?_)|refine zD.bind (zNV n) (λ_ _=>?_))
theorem kO(n:Int):zD (λq=>zEH q n) λ_=>True:=by simp only[zEH];repeat'(first|exact zD.ret trivial|refine zD.ite (λ_=>?_) (λ_=>?_))
theorem zKP(n:Int):zD (λq=>zRs q n) λ_=>True:=by simp only[zRs];repeat'(first|exact zD.ret trivial|refine zD.ite (λ_=>?_) (λ_=>?_)|refine zD.bind (jR n) (λ_ _=>?_)|refine zD.bind (kO n) (λ_ _=>?_))
theorem mZ(s:ByteArray):zD (λq=>zKM q s) λ_=>True:=by simp only[zKM];repeat'(first|exact zD.ret trivial|refine zD.ite (λ_=>?_) (λ_=>?_))
theorem gU(r1:List Int×Int×Int)(h0:0<r1.1.length)(h1:r1.1.length<=65535):∀(l:List Int)(v:Nat),r1.1.drop v=l->zD (λq=>eI q r1 (v:Int)) λ_=>True
 |[],v,hd=>by
  refine zD.succ ?_;simp only[eI];obtain⟨y,hy⟩:∃y,zO r1.1 0=some y:=⟨_,by unfold zO;rw[if_pos (by omega)];exact List.getElem?_eq_getElem h0⟩;refine zD.ite (λh=>?_) λ_=>zD.pure hy ?_;·rw[yE hd]at h;cases h
  ·repeat'(first|exact zD.ret trivial|refine zD.ite (λ_=>?_) (λ_=>?_)|refine zD.bind (jR y) (λ_ _=>?_))|x::l,v,hd=>by
  have hlt:=yK hd;refine zD.succ ?_;simp only[eI];refine zD.ite (λ_=>zD.pure (zY hd) ((zKP x).bind λb _=>zD.ite (λ_=>?_) λ_=>zD.ret trivial)) λh=>?_
  ·rw[zV v (by omega)];exact gU r1 h0 h1 l (v+1) (zR hd)
  ·rw[yD hd]at h;cases h
theorem sC(s:ByteArray):zD (λq=>kN q s) λ_=>True:=by simp only[kN];refine(zCg s).bind λr hr=>zD.ite (λ_=>zD.ret trivial) λ_=>zD.ite (λ_=>zD.ret trivial) λh=>zD.ite (λ_=>zD.ret trivial) λ_=>(mZ s).bind λ_ _=>zD.ite (λ_=>zD.ret trivial) λ_=>?_;exact gU r (by simp at h;exact List.length_pos_iff.2 h) hr r.1 0 rfl
theorem bN:∀(r l:List ByteArray)(v:Nat)(m:List (ByteArray×Int)),l.drop v=r->l.length<=65535->zD (λq=>K3 q l (v:Int) m) λ_=>True
 |[],l,v,m,hd,hl=>by refine zD.succ ?_;simp only[K3];refine zD.ite (λh=>?_) λ_=>zD.ret trivial;rw[yE hd]at h;cases h|x::r,l,v,m,hd,hl=>by
  have hlt:=yK hd;refine zD.succ ?_;simp only[K3];refine zD.ite (λ_=>zD.pure (zY hd) (zD.ite (λ_=>zD.ret trivial) λ_=>?_)) λh=>?_;·rw[zV v (by omega)];exact bN r l (v+1) _ (zR hd) hl
  ·rw[yD hd]at h;cases h
theorem zCf(l:List ByteArray)(hl:l.length<=65535):zD (λq=>e87 q l) λ_=>True:=by simp only[e87];exact bN l l 0 _ rfl hl
def eJ:Nat->Int->(List U8)->Int->Int->(List U8)->Option (ByteArray×Int)|0,_,_,_,_,_=>none|e+1,r4,x7,f,m,d=>if decide (m>0)then mO x7.length m>>=λx10=>cG d x10 (IntKind.u8.wrap ((BitVec.ofInt (IntKind.bits .u8) 128|||BitVec.ofInt (IntKind.bits .u8) (IntKind.u8.wrap ((IntKind.i64.wrap ((BitVec.ofInt (IntKind.bits .i64) f&&&BitVec.ofInt (IntKind.bits .i64) 63).toNat:Nat))))).toNat:Nat))>>=λx12=>eJ e r4 x7 (Int.fdiv f (2^(min (Int.toNat 6) (IntKind.bits .i64)))) (yJ (m-1)) x12 else zQB 3840 r4>>=λx14=>mO x7.length 0>>=λx16=>cG d x16 (IntKind.u8.wrap ((IntKind.i64.wrap ((BitVec.ofInt (IntKind.bits .i64) (IntKind.i64.wrap ((BitVec.ofInt (IntKind.bits .i64) x14&&&BitVec.ofInt (IntKind.bits .i64) 255).toNat:Nat))|||BitVec.ofInt (IntKind.bits .i64) f).toNat:Nat))))>>=λx18=>gtx x7.length x18>>=λx20=>some (x20,0)
def zNW(e:Nat)(g:Int):Option (ByteArray×Int):=zGV e g>>=λr1=>if r1 then zGW e g>>=λr4=>if r4==1 then some ((qK [(IntKind.u8.wrap (g))]),0)else gmk 1 (default:U8) r4>>=λx7=>eJ e r4 x7 g (yJ (r4-1)) x7 else some ((⟨#[]⟩:ByteArray),16)
theorem zRq:∀e:Nat,∀r4 x7 f m d,Lz (eJ e r4 x7 f m d) 0 f223 (pt 262069 f223) (λj=>sp j 47 0 [(0,ai f),(4,ai r4),(5,.ms 0 0 x7.length x7.length 1),(6,ai m)]) ⟨[(0,.row (zH aC d))],1,[],0,[]⟩ (λr=>.tup [at' r.1,ai r.2]) (λ_=>[]) 0 [.blk 0,.seq (pt 4095 f223)]:=xF (λ_ _ _ _ _=>lN) λe ih=>λr4 x7 f m d=>lw λ_=>rB 0 (rA 3 (zNn (b:=0) (c:=List.length x7) (z:=1)) λ_=>rW (λh13=>oW 0 (zMS (x:=(IntKind.u8.wrap ((BitVec.ofInt (IntKind.bits .u8) 128|||BitVec.ofInt (IntKind.bits .u8) (IntKind.u8.wrap ((IntKind.i64.wrap ((BitVec.ofInt (IntKind.bits .i64) f&&&BitVec.ofInt (IntKind.bits .i64) 63).toNat:Nat))))).toNat:Nat))) (a:=(λz=>.val (.int .u8 z))) W5 (λ_=>rfl) (λ_=>⟨rfl,rfl⟩) h13)) λ_=>lH 2 [] [0] [] [0,4,5,6] (ih _ _ _ _ _))<|rA 0 (zUP (P:=prog) (t:=3)) λx14=>rA 3 (zNn (b:=0) (c:=List.length x7) (z:=1)) λ_=>rW (λh19=>oW 0 (zMS (x:=(IntKind.u8.wrap ((IntKind.i64.wrap ((BitVec.ofInt (IntKind.bits .i64) (IntKind.i64.wrap ((BitVec.ofInt (IntKind.bits .i64) x14&&&BitVec.ofInt (IntKind.bits .i64) 255).toNat:Nat))|||BitVec.ofInt (IntKind.bits .i64) f).toNat:Nat))))) (a:=(λz=>.val (.int .u8 z))) W5 (λ_=>rfl) (λ_=>⟨rfl,rfl⟩) h19)) λ_=>rW (λh21=>oCv 0 (zNp h21)) λ_=>lE 0
theorem zXU{e g}:Cz (zNW e g) 223 [] [ai g] (λr=>.tup [at' r.1,ai r.2]) (λ_=>[]) 0:=fw func223<|rK 0 [] zRz (λ_=>rC 1 [] zXR λ_=>rB 0 (rS (oA 2 (sH [(IntKind.u8.wrap (g))] (o:=.full)))<|fE 0)<|rW (λh8=>oM 0 (zUX h8)) λ_=>fH 1 [] [0] [] [0,4,5,6] (zRq _ _ _ _ _ _)) λ_=>fE 1
def eK:Nat->yH->Int->yH->Int->Option yH|0,_,_,_,_=>none|c+1,b,a,d,e=>if decide (a<(b.length:Int))then zO b a>>=λx2=>yT 8 d [e]>>=λl4=>zNW c x2>>=λr6=>eK c b (yJ (a+1)) l4 (yJ (e+(r6.1.size:Int)))else some d
def zRp(c:Nat)(b:yH):Option yH:=eK c b 0 [] 0
theorem zRo:∀c:Nat,∀b a d e,Lz (eK c b a d e) 0 f169 (pt 16309 f169) (λj=>sp j 30 0 [(3,zC zQ d (.st 0 1)),(4,ai e),(9,zC zQ b .no),(10,ai (b.length:Int)),(11,ai a)]) ⟨[],0,[0],1,[]⟩ (λr=>.sl (zH zQ r) r.length .no) (λ_=>[]) 0 [.blk 0,.seq (pt 255 f169)]:=xF (λ_ _ _ _=>lN) λc ih=>λb a d e=>lw λ_=>rB 0 (rA 0 (sS (o:=.no)) λ_=>rW (λh5=>oP 2 (sO h5 (by simp))) λ_=>rC 0 [] zXU λ_=>lH 5 [] [] [1] [3,4,9,10,11] (ih _ _ _ _))<|lE 0
theorem yAq{c b}:Cz (zRp c b) 169 [] [zC zQ b .no] (λr=>.sl (zH zQ r) r.length .no) (λ_=>[]) 0:=fw func169<|fH 1 [(none,3,1)] [] [0] [3,4,9,10,11] (zRo _ _ _ _ _)
def zRn(b:Nat)(a:Int):Option (Bool):=if a==9 then some true else if a==10 then some true else if a==13 then some true else some (a==32)
theorem yAp{b a}:Cz (zRn b a) 224 [] [ai a] (λr=>ab r) (λ_=>[]) 0:=fw func224<|rB 0 (fE 0)<|rB 0 (fE 0)<|rB 0 (fE 0)<|fE 1
def R0(e:Nat)(a c:yH)(b d:Int):Option (Int):=if decide ((yJ (b+d))>=(a.length:Int))then some (-1)else zO a (yJ (b+d))>>=λx2=>some x2
theorem zCe{e a c b d}:Cz (R0 e a c b d) 225 [.cells [zC zQ a .no,zC zQ c .no,ai b]] [.mp 0 0,ai d] (λr=>ai r) (λ_=>[.cells [zC zQ a .no,zC zQ c .no,ai b]]) 0:=fw func225<|rB 4 (fE 0)<|rA 3 (sS (o:=.no)) λ_=>fE 1
def zEI(d:Nat)(a b:yH)(c e f:Int):Option (Bool):=R0 d a b c 0>>=λr1=>if r1==e then R0 d a b c 1>>=λr4=>some (r4==f)else some false
theorem zNX{d a b c e f}:Cz (zEI d a b c e f) 226 [.cells [zC zQ a .no,zC zQ b .no,ai c]] [.mp 0 0,ai e,ai f] (λr=>ab r) (λ_=>[.cells [zC zQ a .no,zC zQ b .no,ai c]]) 0:=fw func226<|rC 0 [0] zCe λ_=>rB 0 (rC 0 [0] zCe λ_=>fE 1)<|fE 0
def E9:Nat->yH->yH->Int->Option (Int)|0,_,_,_=>none|e+1,a,b,c=>if decide (c<(a.length:Int))then R0 e a b c 0>>=λr2=>if r2 !=10 then E9 e a b (yJ (c+1))else some c else some c
def zVs(e:Nat)(a b:yH)(d:Int):Option (Int):=E9 e a b d
theorem zRm:∀e:Nat,∀a b c,Lz (E9 e a b c) 1 f227 (pt 5 f227) (λj=>sp j 24 0 [(0,.mp 0 0)]) ⟨[(0,.cells [zC zQ a .no,zC zQ b .no,ai c])],1,[],0,[]⟩ (λ_=>.tup []) (λr=>[.cells [zC zQ a .no,zC zQ b .no,ai r]]) 0 [.blk 0]:=xF (λ_ _ _=>lN) λe ih=>λa b c=>lw λ_=>rB 3 (rC 0 [0] zCe λ_=>rB 0 (lH 3 [] [0] [] [0] (ih _ _ _))<|lE 0)<|lE 0
theorem yAo{e a b d}:Cz (zVs e a b d) 227 [.cells [zC zQ a .no,zC zQ b .no,ai d]] [.mp 0 0] (λ_=>.tup []) (λr=>[.cells [zC zQ a .no,zC zQ b .no,ai r]]) 0:=fw func227<|fH 0 [] [0] [] [0] (zRm _ _ _ _)
def lA:Nat->yH->yH->Int->Int->Option (Bool×Int)
 |0,_,_,_,_=>none|e+1,a,b,f,c=>if decide (c<(a.length:Int))then zEI e a b c 123 45>>=λr2=>if r2 then lA e a b (yJ (f+1)) (yJ (c+2))else zEI e a b c 45 125>>=λr5=>if r5 then if(yJ (f-1))==0 then some (((yJ (f-1))==0),(yJ (c+2)))else lA e a b (yJ (f-1)) (yJ (c+2))else lA e a b f (yJ (c+1))else some ((f==0),c)
def zVr(e:Nat)(a b:yH)(d:Int):Option (Bool×Int):=lA e a b 0 d
theorem zRl:∀e:Nat,∀a b f c,Lz (lA e a b f c) 1 f228 (pt 14309 f228) (λj=>sp j 49 0 [(0,.mp 0 0),(3,ai f)]) ⟨[(0,.cells [zC zQ a .no,zC zQ b .no,ai c])],1,[],0,[]⟩ (λr=>ab r.1) (λr=>[.cells [zC zQ a .no,zC zQ b .no,ai r.2]]) 0 [.blk 0,.seq (pt 895 f228)]:=xF (λ_ _ _ _=>lN) λe ih=>λa b f c=>lw λ_=>rB 3 (rK 0 [0] zNX (λ_=>lH 4 [] [0] [] [0,3] (ih _ _ _ _)) λ_=>rK 0 [0] zNX (λ_=>rB 4 (lE 1)<|lH 0 [] [0] [] [0,3] (ih _ _ _ _)) λ_=>lH 3 [] [0] [] [0,3] (ih _ _ _ _))<|lE 1
theorem yAn{e a b d}:Cz (zVr e a b d) 228 [.cells [zC zQ a .no,zC zQ b .no,ai d]] [.mp 0 0] (λr=>ab r.1) (λr=>[.cells [zC zQ a .no,zC zQ b .no,ai r.2]]) 0:=fw func228<|fH 0 [] [0] [] [0,3] (zRl _ _ _ _ _)
def lB:Nat->yH->yH->Int->Option (Int×Bool×Int)
 |0,_,_,_=>none|d+1,a,b,c=>if decide (c<(a.length:Int))then R0 d a b c 0>>=λr2=>zRn d r2>>=λr4=>if r4 then lB d a b (yJ (c+1))else zEI d a b c 45 45>>=λr7=>if r7 then zVs d a b c>>=λr10=>lB d a b r10 else zEI d a b c 123 45>>=λr12=>if r12 then zVr d a b c>>=λr15=>if r15.1 then lB d a b r15.2 else zO b c>>=λx18=>some (x18,false,r15.2)else some (0,true,c)else some (0,true,c)
def zVq(d:Nat)(a b:yH)(e:Int):Option (Int×Bool×Int):=lB d a b e
theorem zRk:∀d:Nat,∀a b c,Lz (lB d a b c) 1 f170 (pt 229 f170) (λj=>sp j 48 0 [(0,.mp 0 0)]) ⟨[(0,.cells [zC zQ a .no,zC zQ b .no,ai c])],1,[],0,[]⟩ (λr=>.tup [ai r.1,ab r.2.1]) (λr=>[.cells [zC zQ a .no,zC zQ b .no,ai r.2.2]]) 0 [.blk 0,.seq (pt 15 f170)]:=xF (λ_ _ _=>lN) λd ih=>λa b c=>lw λ_=>rB 3 (rC 0 [0] zCe λ_=>rK 0 [] yAp (λ_=>lH 3 [] [0] [] [0] (ih _ _ _)) λ_=>rK 0 [0] zNX (λ_=>rC 0 [0] yAo λ_=>lH 0 [] [0] [] [0] (ih _ _ _)) λ_=>rK 0 [0] zNX (λ_=>rK 1 [0] yAn (λ_=>lH 1 [] [0] [] [0] (ih _ _ _)) λ_=>rA 2 (sS (o:=.no)) λ_=>lE 1) λ_=>lE 0)<|lE 0
theorem yAm{d a b e}:Cz (zVq d a b e) 170 [.cells [zC zQ a .no,zC zQ b .no,ai e]] [.mp 0 0] (λr=>.tup [ai r.1,ab r.2.1]) (λr=>[.cells [zC zQ a .no,zC zQ b .no,ai r.2.2]]) 0:=fw func170<|fH 0 [] [0] [] [0] (zRk _ _ _ _)
def eL:Nat->yH->Int->(List U8)->Option (ByteArray×Int)|0,_,_,_=>none|b+1,a,c,e=>if decide (c<(a.length:Int))then zO a c>>=λx8=>zNW b x8>>=λr10=>if decide ((yJ ((e.length:Int)+(r10.1.size:Int)))>65535)then some ((⟨#[]⟩:ByteArray),2)else yT 1 e (gbs r10.1)>>=λl13=>eL b a (yJ (c+1)) l13 else some ((qK e),0)
def eM:Nat->yH->Int->Option (ByteArray×Int)|0,_,_=>none|b+1,a,d=>if decide (d<(a.length:Int))then zO a d>>=λx2=>zGV b x2>>=λr4=>if r4 then eM b a (yJ (d+1))else some ((⟨#[]⟩:ByteArray),16)else eL b a 0 []
def zCd(b:Nat)(a:yH):Option (ByteArray×Int):=eM b a 0
theorem zRj:∀b:Nat,∀a c e,Lz (eL b a c e) 0 f275 (pt 16309 f275) (λj=>sp j 44 0 [(6,zC aC e (.st 0 1)),(21,zC zQ a .no),(22,ai (a.length:Int)),(23,ai c)]) ⟨[],0,[0],1,[]⟩ (λr=>.tup [at' r.1,ai r.2]) (λ_=>[]) 0 [.blk 2,.seq (pt 255 f275)]:=xF (λ_ _ _=>lN) λb ih=>λa c e=>lw λ_=>rB 0 (rA 0 (sS (o:=.no)) λ_=>rC 1 [] zXU λr10=>rB 5 (lE 0)<|rH λ_ h14=>rZ (List.length (gbs r10.1)=0) (λh15=>rS (oPs 0 (zKa h14 h15))<|lH 1 [] [] [0] [6,21,22,23] (ih _ _ _)) λh15=>rS (oPs 0 (zNq h14 h15))<|lH 1 [] [] [1] [6,21,22,23] (ih _ _ _))<|rS (oA 0 (sH e (o:=(.st 0 1))))<|lE 0
theorem zRi:∀b:Nat,∀a d,Lz (eM b a d) 0 f275 (pt 949 f275) (λj=>sp j 44 0 [(0,zC zQ a .no),(11,zC zQ a .no),(12,ai (a.length:Int)),(13,ai d)]) ⟨[],0,[],0,[]⟩ (λr=>.tup [at' r.1,ai r.2]) (λ_=>[]) 0 [.blk 0,.seq (pt 15 f275)]:=xF (λ_ _=>lN) λb ih=>λa d=>lw λ_=>rB 0 (rA 0 (sS (o:=.no)) λ_=>rK 1 [] zRz (λ_=>lH 2 [] [] [] [0,11,12,13] (ih _ _)) λ_=>lE 1)<|lH 1 [(none,6,1)] [] [0] [6,21,22,23] (zRj _ _ _ _)
theorem zRh{b a}:Cz (zCd b a) 275 [] [zC zQ a .no] (λr=>.tup [at' r.1,ai r.2]) (λ_=>[]) 0:=fw func275<|fH 1 [] [] [] [0,11,12,13] (zRi _ _ _)
def oO:Nat->yH->yH->Int->Int->Option (ByteArray×Int)|0,_,_,_,_=>none|e+1,b,c,d,a=>if decide (a<(b.length:Int))then R0 e b c a 0>>=λr2=>zEH e r2>>=λr4=>if r4 then oO e b c d (yJ (a+1))else sN b d a>>=λx7=>zCd e x7>>=λr9=>some (r9.1,a)else sN b d a>>=λx11=>zCd e x11>>=λr13=>some (r13.1,a)
def Z6(e:Nat)(b c:yH)(d:Int):Option (ByteArray×Int):=oO e b c d d
theorem zEJ:∀e:Nat,∀b c d a,Lz (oO e b c d a) 1 f229 (pt 997 f229) (λj=>sp j 50 0 [(0,.mp 0 0),(1,.clo 231 [] []),(5,ai d)]) ⟨[(0,.cells [zC zQ b .no,zC zQ c .no,ai a])],1,[],0,[]⟩ (λr=>at' r.1) (λr=>[.cells [zC zQ b .no,zC zQ c .no,ai r.2]]) 0 [.blk 0,.seq (pt 63 f229)]:=xF (λ_ _ _ _=>lN) λe ih=>λb c d a=>lw λ_=>rB 3 (rC 0 [0] zCe λ_=>rK 0 [] zNR (λ_=>lH 3 [] [0] [] [0,1,5] (ih _ _ _ _)) λ_=>rA 2 zQH λ_=>rC 0 [] zRh λ_=>lE 2)<|rA 2 zQH λ_=>rC 0 [] zRh λ_=>lE 2
theorem zNY{e b c d}:Cz (Z6 e b c d) 229 [.cells [zC zQ b .no,zC zQ c .no,ai d]] [.mp 0 0,.clo 231 [] []] (λr=>at' r.1) (λr=>[.cells [zC zQ b .no,zC zQ c .no,ai r.2]]) 0:=fw func229<|fH 1 [] [0] [] [0,1,5] (zEJ _ _ _ _ _)
def zNZ(b:Nat)(a:Int):Option (Bool):=zGX b a>>=λr1=>if r1 then some true else zEH b a>>=λr4=>if r4 then some true else if a==95 then some true else some (a==39)
theorem zXV{b a}:Cz (zNZ b a) 230 [] [ai a] (λr=>ab r) (λ_=>[]) 0:=fw func230<|rK 0 [] zRt (λ_=>fE 0) λ_=>rK 0 [] zNR (λ_=>fE 0) λ_=>rB 0 (fE 0)<|fE 1
def oR:Nat->yH->yH->Int->Int->Option (ByteArray×Int)|0,_,_,_,_=>none|e+1,b,c,d,a=>if decide (a<(b.length:Int))then R0 e b c a 0>>=λr2=>zNZ e r2>>=λr4=>if r4 then oR e b c d (yJ (a+1))else sN b d a>>=λx7=>zCd e x7>>=λr9=>some (r9.1,a)else sN b d a>>=λx11=>zCd e x11>>=λr13=>some (r13.1,a)
def F1(e:Nat)(b c:yH)(d:Int):Option (ByteArray×Int):=oR e b c d d
theorem zEK:∀e:Nat,∀b c d a,Lz (oR e b c d a) 1 f229 (pt 997 f229) (λj=>sp j 50 0 [(0,.mp 0 0),(1,.clo 230 [] []),(5,ai d)]) ⟨[(0,.cells [zC zQ b .no,zC zQ c .no,ai a])],1,[],0,[]⟩ (λr=>at' r.1) (λr=>[.cells [zC zQ b .no,zC zQ c .no,ai r.2]]) 0 [.blk 0,.seq (pt 63 f229)]:=xF (λ_ _ _ _=>lN) λe ih=>λb c d a=>lw λ_=>rB 3 (rC 0 [0] zCe λ_=>rK 0 [] zXV (λ_=>lH 3 [] [0] [] [0,1,5] (ih _ _ _ _)) λ_=>rA 2 zQH λ_=>rC 0 [] zRh λ_=>lE 2)<|rA 2 zQH λ_=>rC 0 [] zRh λ_=>lE 2
theorem zEL{e b c d}:Cz (F1 e b c d) 229 [.cells [zC zQ b .no,zC zQ c .no,ai d]] [.mp 0 0,.clo 230 [] []] (λr=>at' r.1) (λr=>[.cells [zC zQ b .no,zC zQ c .no,ai r.2]]) 0:=fw func229<|fH 1 [] [0] [] [0,1,5] (zEK _ _ _ _ _)
def eN:Nat->ByteArray->Int->Nat->Option (Int×Bool)|0,_,_,_=>none|c+1,b,d,a=>if decide (a<ByteArray.size b)then zEH c (yJ (((Utf8.decode b a).1:Int)))>>=λr8=>if r8 then eN c b (yJ ((yJ (10*d))+(yJ ((IntKind.i32.wrap (((Utf8.decode b a).1:Int)-48)))))) (a+(Utf8.decode b a).2)else some (0,false)else some (d,true)
def zOz(c:Nat)(b:ByteArray):Option (Int×Bool):=if b.toList==(⟨#[]⟩:ByteArray).toList then some (0,false)else if decide ((b.size:Int)>3)then some (0,false)else O0 b 0>>=λx3=>if x3==48 then if decide ((b.size:Int)>1)then some (0,false)else eN c b 0 0 else eN c b 0 0
theorem zIU:∀c:Nat,∀b d a,Lz (eN c b d a) 0 f232 (pt 16309 f232) (λj=>sp j 40 0 [(4,ai d),(25,.mp 0 0)]) ⟨[(0,.obj (.stringIter b a))],1,[],0,[]⟩ (λr=>.tup [ai r.1,ab r.2]) (λ_=>[]) 0 [.blk 0,.seq (pt 255 f232)]:=xF (λ_ _ _=>lN) λc ih=>λb d a=>lw λ_=>rI (λh7=>rS (oX 0 (zQC (of_decide_eq_true h7)))<|rK 3 [] zNR (λ_=>lH 5 [] [0] [] [4,25] (ih _ _ _)) λ_=>lE 1) λh7=>rS (oX 0 (zQD (of_decide_eq_false h7)))<|lE 1
theorem zXW{c b}:Cz (zOz c b) 232 [] [at' b] (λr=>.tup [ai r.1,ab r.2]) (λ_=>[]) 0:=fw func232<|rB 0 (fE 0)<|rB 1 (fE 0)<|rA 0 zGL λ_=>rB 0 (rB 1 (fE 0)<|fH 0 [] [0] [] [4,25] (zIU _ _ _ _))<|fH 0 [] [0] [] [4,25] (zIU _ _ _ _)
def zRg(d:Nat)(a b:yH)(c:Int):Option (ByteArray×Int):=R0 d a b c 0>>=λr1=>if r1==40 then some ((qK [(IntKind.u8.wrap (r1))]),1)else if r1==41 then some ((qK [(IntKind.u8.wrap (r1))]),1)else if r1==123 then some ((qK [(IntKind.u8.wrap (r1))]),1)else if r1==125 then some ((qK [(IntKind.u8.wrap (r1))]),1)else if r1==58 then some ((qK [(IntKind.u8.wrap (r1))]),1)else if r1==61 then some ((qK [(IntKind.u8.wrap (r1))]),1)else if r1==46 then some ((qK [(IntKind.u8.wrap (r1))]),1)else if r1==44 then some ((qK [(IntKind.u8.wrap (r1))]),1)else if r1==59 then some ((qK [(IntKind.u8.wrap (r1))]),1)else if r1==124 then some ((qK [(IntKind.u8.wrap (r1))]),1)else if r1==92 then some ((qK [(IntKind.u8.wrap (r1))]),1)else if r1==955 then some ((⟨#[92]⟩:ByteArray),1)else if r1==8594 then some ((⟨#[45,62]⟩:ByteArray),1)else zEI d a b c 45 62>>=λr16=>if r16 then some ((⟨#[45,62]⟩:ByteArray),2)else some ((⟨#[]⟩:ByteArray),0)
theorem yAl{d a b c}:Cz (zRg d a b c) 233 [.cells [zC zQ a .no,zC zQ b .no,ai c]] [.mp 0 0] (λr=>.tup [at' r.1,ai r.2]) (λ_=>[.cells [zC zQ a .no,zC zQ b .no,ai c]]) 0:=fw func233<|rC 0 [0] zCe λr1=>rB 0 (rS (oA 2 (sH [(IntKind.u8.wrap (r1))] (o:=.full)))<|fE 0)<|rB 0 (rS (oA 2 (sH [(IntKind.u8.wrap (r1))] (o:=.full)))<|fE 0)<|rB 0 (rS (oA 2 (sH [(IntKind.u8.wrap (r1))] (o:=.full)))<|fE 0)<|rB 0 (rS (oA 2 (sH [(IntKind.u8.wrap (r1))] (o:=.full)))<|fE 0)<|rB 0 (rS (oA 2 (sH [(IntKind.u8.wrap (r1))] (o:=.full)))<|fE 0)<|rB 0 (rS (oA 2 (sH [(IntKind.u8.wrap (r1))] (o:=.full)))<|fE 0)<|rB 0 (rS (oA 2 (sH [(IntKind.u8.wrap (r1))] (o:=.full)))<|fE 0)<|rB 0 (rS (oA 2 (sH [(IntKind.u8.wrap (r1))] (o:=.full)))<|fE 0)<|rB 0 (rS (oA 2 (sH [(IntKind.u8.wrap (r1))] (o:=.full)))<|fE 0)<|rB 0 (rS (oA 2 (sH [(IntKind.u8.wrap (r1))] (o:=.full)))<|fE 0)<|rB 0 (rS (oA 2 (sH [(IntKind.u8.wrap (r1))] (o:=.full)))<|fE 0)<|rB 0 (fE 0)<|rB 0 (fE 0)<|rK 0 [0] zNX (λ_=>fE 0) λ_=>fE 0
def zRf(d:Nat)(a b:yH)(c:Int):Option (zM×Bool×Int):=zO b c>>=λx1=>R0 d a b c 0>>=λr3=>zGX d r3>>=λr5=>if r5 then F1 d a b c>>=λr8=>zKM d r8.1>>=λr10=>if r10 then some ((zM.mk 2 r8.1 x1),true,r8.2)else if r8.1.toList==(⟨#[95]⟩:ByteArray).toList then some ((zM.mk 1 r8.1 x1),true,r8.2)else kN d r8.1>>=λr14=>some ((zM.mk 1 r8.1 x1),r14,r8.2)else if r3==95 then F1 d a b c>>=λr17=>zKM d r17.1>>=λr19=>if r19 then some ((zM.mk 2 r17.1 x1),true,r17.2)else if r17.1.toList==(⟨#[95]⟩:ByteArray).toList then some ((zM.mk 1 r17.1 x1),true,r17.2)else kN d r17.1>>=λr23=>some ((zM.mk 1 r17.1 x1),r23,r17.2)else zEH d r3>>=λr25=>if r25 then Z6 d a b c>>=λr28=>zOz d r28.1>>=λr30=>if r30.2 then R0 d a b r28.2 0>>=λr33=>zNZ d r33>>=λr35=>some ((zM.mk 3 r28.1 x1),!r35,r28.2)else some ((zM.mk 3 r28.1 x1),false,r28.2)else zRg d a b c>>=λr37=>some ((zM.mk 4 r37.1 x1),decide (r37.2>0),(yJ (c+r37.2)))
theorem yAk{d a b c}:Cz (zRf d a b c) 171 [.cells [zC zQ a .no,zC zQ b .no,ai c]] [.mp 0 0] (λr=>.tup [O5 r.1,ab r.2.1]) (λr=>[.cells [zC zQ a .no,zC zQ b .no,ai r.2.2]]) 0:=fw func171<|rA 2 (sS (o:=.no)) λ_=>rC 2 [0] zCe λ_=>rK 0 [] zRt (λ_=>rC 0 [0] zEL λ_=>rK 3 [] zVu (λ_=>fE 5) λ_=>rB 4 (fE 1)<|rC 1 [] E8 λ_=>fE 1) λ_=>rB 0 (rC 0 [0] zEL λ_=>rK 3 [] zVu (λ_=>fE 5) λ_=>rB 4 (fE 1)<|rC 1 [] E8 λ_=>fE 1)<|rK 0 [] zNR (λ_=>rC 0 [0] zNY λ_=>rC 3 [] zXW λ_=>rB 1 (rC 1 [0] zCe λ_=>rC 0 [] zXV λ_=>fE 2)<|fE 2) λ_=>rC 0 [0] yAl λ_=>fE 10
end Go.Proofs.YthncchbcdpbgaaaGreat
