/- Parts of the proof that the law returns true: walks of the functions, plain laws. -/
import Derived.Lib.SlicesCompact
import Derived.Sort.Grow
import Derived.Sort.Row
import Derived.Test.YthncchbcdpbgaaaGreatAbB2
set_option linter.unusedVariables false
set_option linter.unusedSimpArgs false
set_option linter.unusedSectionVars false
namespace Go.Ab
open Go Go.RowKit
theorem oO{α β:Type}{x:Option α}{f:α->Option β}{r:β}(h:(x>>=f)=some r):∃v,x=some v∧f v=some r:=by
 cases x with
 |none=>cases h
 |some v=>exact⟨v,rfl,h⟩
theorem ifT{α:Type}{b:Bool}{x y r:α}(hb:b=true)(h:(if b=true then x else y)=r):x=r:=by rwa[if_pos hb]at h
theorem ifF{α:Type}{b:Bool}{x y r:α}(hb:b=false)(h:(if b=true then x else y)=r):y=r:=by rw[hb,if_neg (by simp)]at h;exact h
theorem yB.nil{P:Program}:yB P []:=trivial
theorem yB.cons{P:Program}{o:Ob}{l:List Ob}(h:o.ok P)(k:yB P l):yB P (o::l):=⟨h,k⟩
theorem mS{P:Program}{b b':Bool}(h:b=b'):Ob.ok P (.bit b b'):=h
theorem aF{P:Program}{f:FuncId}{H0:List Blk}{args:List AV}{res:AV}{H1:List Blk}{nst:Nat}(h:CT P f H0 args res H1 nst):Ob.ok P (.call f H0 args res H1 nst):=h
theorem rG{P:Program}{es:List AV}(h:AV.DataL es):Ob.ok P (.data es):=h
theorem vV.nilcase{P:Program}{f:FuncId}{H0 H1:List Blk}{es:List AV}{n:Nat}{as0:List AV}{res:AV}{nst:Nat}(h0:es=[]->vV P f H0 (.sl es n .nl::as0) res H1 nst)(h1:vV P f H0 (.sl es n .nn::as0) res H1 nst):vV P f H0 (.sl es n .no::as0) res H1 nst:=by
 intro G0 W cargs hB hR hv
 cases hc:cargs.toList with
 |nil=>rw[hc]at hv;simp only[VL]at hv
 |cons u us=>
  rw[hc]at hv
  simp only[VL]at hv
  obtain⟨hu,hus⟩:=hv
  simp only[V]at hu
  obtain⟨cap,hcap,⟨q1,q2,q3,q4,_⟩|⟨b,off,q1,q2,_⟩⟩:=hu
  ·cases hs:kW u with
   |none=>
    refine h0 q1 G0 W cargs hB hR ?_
    rw[hc]
    simp only[VL]
    exact⟨by simp only[V];exact⟨cap,hcap,.inl ⟨q1,q2,q3,q4,hs⟩⟩,hus⟩
   |some a=>
    refine h1 G0 W cargs hB hR ?_
    rw[hc]
    simp only[VL]
    exact⟨by simp only[V];exact⟨cap,hcap,.inl ⟨q1,q2,q3,q4,a,hs⟩⟩,hus⟩
  ·refine h1 G0 W cargs hB hR ?_
   rw[hc]
   simp only[VL]
   exact⟨by simp only[V];exact⟨cap,hcap,.inr ⟨b,off,q1,q2,trivial⟩⟩,hus⟩
theorem N0{α:Type}{c:α->List AV}{sz:Nat}(hc:wZ c sz)(h:0<sz){l:List α}(hl:zD c l=[]):l=[]:=by
 have:=vJ hc.len l
 rw[hl]at this
 cases l with
 |nil=>rfl
 |cons x l=>
  simp only[List.length_nil,List.length_cons]at this
  exact absurd this.symm (Nat.ne_of_gt (Nat.mul_pos (Nat.succ_pos _) h))
variable {P:Program} {pr:FuncId->List AV->LSt->Option LA} (hp:tK P pr) (hm:P.follows .mixedOrders=true) {na:Nb} {fn:Func} {f:FuncId}
include hp hm
theorem vV.toHead{H0 H1:List Blk}{args:List AV}{res:AV}{nst:Nat}(hf:P.funcs[f]? = some fn)(hb:fn.body.isNone=false)(n:Nat)(os:List Orc)(rs:List (Option Nat×Nat×Nat))(keep ks live:List Nat){c:Code}{fs':List Fr}{E:(Nat->Value)->List AV}{S:LSt}{ob:List Ob}
  (h:∀j,jP P pr H0.length n (.run (bod fn)) [] (args++List.replicate (fn.ntmps-args.length) (.val undef)) (st0 H0) os rs keep ks live j=some (c,fs',E j,S,ob)) (hob:yB P ob)
  (hk:∀j,Dl P H0.length c (E j) S (wD P H0.length (lP P H0.length fn res H1 nst) fs')):vV P f H0 args res H1 nst:=
 vV.body hf hb (M2 (na:=(H0.length:Nb)) (m:=.run (bod fn)) (fs:=[]) hp hm h hob hk)
theorem vV.toFin{H0 H1:List Blk}{args:List AV}{res:AV}{nst:Nat}(hf:P.funcs[f]? = some fn)(hb:fn.body.isNone=false)(n:Nat)(os:List Orc)(rs:List (Option Nat×Nat×Nat))(keep ks:List Nat)(own:Bool){ob:List Ob}
  (h:aD P pr H0.length fn n (.run (bod fn)) [] (args++List.replicate (fn.ntmps-args.length) (.val undef)) (st0 H0) os rs keep ks own=some (res,H1,ob)) (hob:yB P ob) (hn:nst≤ks.length):vV P f H0 args res H1 nst:=
 vV.body hf hb (iU (na:=(H0.length:Nb)) (m:=.run (bod fn)) (fs:=[]) hp hm h hob hn)
theorem Dl.toHead{Q:AX->List AV->LSt->Prop}{c c':Code}{fs fs':List Fr}{env:List AV}{s S:LSt}(n:Nat)(os:List Orc)(rs:List (Option Nat×Nat×Nat))(keep ks live:List Nat){E:(Nat->Value)->List AV}{ob:List Ob}
  (h:∀j,jP P pr na.n n (.run c) (.loop c::fs) env s os rs keep ks live j=some (c',fs',E j,S,ob)) (hob:yB P ob) (hk:∀j,Dl P na c' (E j) S (wD P na Q fs')):Dl P na c env s (wD P na Q fs):=
 Dl.step (M2 hp hm (Q:=Q) (m:=.run c) (fs:=.loop c::fs) h hob hk)
theorem Dl.toFin{c:Code}{fs:List Fr}{env:List AV}{s:LSt}{res:AV}{H1:List Blk}{nst:Nat}(n:Nat)(os:List Orc)(rs:List (Option Nat×Nat×Nat))(keep ks:List Nat)(own:Bool){ob:List Ob}
  (h:aD P pr na.n fn n (.run c) (.loop c::fs) env s os rs keep ks own=some (res,H1,ob)) (hob:yB P ob) (hn:nst≤ks.length):Dl P na c env s (wD P na (lP P na fn res H1 nst) fs):=
 Dl.step (iU hp hm (m:=.run c) (fs:=.loop c::fs) h hob hn)
end Go.Ab
namespace Go.Ab
open Go Go.RowKit
theorem aG{P:Program}{ops:Array Oper}{Q:Exit->Act->World->Prop}{rest:List Nat}:∀(l:List (Nat×Option LA)) (S S':ST),nY P ops l S S'->∀(G:Gh) (a:Act) (w:World),Rel G S a w ->
  (∀G' a' w',Ext G w G' w'->Rel G' S' a' w'->wpOps P ops Q rest a' w')->wpOps P ops Q (l.map (·.1)++rest) a w
 | [],S,S',h,G,a,w,hR,hQ=>by
  simp only[nY]at h
  subst h
  exact hQ G a w (Ext.refl G w) hR
 |p::l,S,S',h,G,a,w,hR,hQ=>by
  obtain⟨S₁,h1,h2⟩:=h
  rw[List.map_cons,List.cons_append,wpOps_cons]
  refine h1.wp hR fun G' a' w' hE hR'=>?_
  exact aG l S₁ S' h2 G' a' w' hR' fun G2 a2 w2 hE2 hR2=>hQ G2 a2 w2 (hE.trans hE2) hR2
theorem zHP{P:Program}{dst:Option Tmp}{type:TypeId}{pos:String}{after:Array Edge}{guard:Option (Nat×Bool)}{g:Operand}{args:Array Operand}{argTypes:Array TypeId}{f:FuncId}{fn:Func}{a:Act}{w:World}{K:Act->World->Prop}{Q:Exit->Act->World->Prop}
  (hg:a.eval g = .func (.func f) #[] #[]) (hf:P.funcs[f]? = some fn) (hname:(fn.name == "runtime.NumGoroutine")=false) (hb:fn.body.isNone=false)
  (h:Calls P f (args.map a.eval) w fun e w'=>∃u,e = .returned u∧K (a.put dst u) w'):Oper.wp P ⟨dst,.call { callee:=.value g,args:=args,argTypes:=argTypes },type,pos,after,guard⟩ a w K Q:=by
 have hrun:(execOp a.eval ⟨dst,.call { callee:=.value g,args:=args,argTypes:=argTypes },type,pos,after,guard⟩).run P w = .ok (.enter f (args.map a.eval)) w:=by
  simp only[execOp,resolve,hg,Deferred.ofValue,Sem.run_bind,Sem.run_pure,Result.andThen_ok,invoke,callFunc]
  have hname':¬fn.name = "runtime.NumGoroutine" := by simpa using hname
  have hb':¬fn.body=none:=by intro e;rw[e]at hb;cases hb
  simp[program,Sem.run,hf,hname',hb']
 unfold Oper.wp
 rw[hrun,Oper.upon_enter]
 refine h.mono fun e w' he=>?_
 obtain⟨u,rfl,hK⟩:=he
 exact hK
theorem wW.cell{F:Nat->Prop}{w w':World}(h:wW F w w'){b o:Nat}(hb:F b):w'.cell? ⟨b,o,none⟩=w.cell? ⟨b,o,none⟩:=by
 simp only[World.cell?,h.block b hb]
theorem VL.lits{G:Gh}{w:World}:∀us:List Value,VL G w (us.map .val) us
 | []=>by simp[VL]
 |u::us=>by simp only[List.map_cons,VL,V];exact⟨trivial,VL.lits us⟩
def N1(keep:List Nat):List (Nat×Blk)->List (Nat×Blk)
 | []=>[]
 |p::l=>bif tQ keep p.1 then p::N1 keep l else N1 keep l
theorem lQ{keep:List Nat}:∀(l:List (Nat×Blk)) (i:Nat),look (N1 keep l) i=if tQ keep i=true then look l i else none
 | [],i=>by simp[N1,look]
 |p::l,i=>by
  simp only[N1]
  cases hb:tQ keep p.1 with
  |true=>
   simp only[cond_true,look,lQ l i]
   cases he:Nat.beq i p.1 with
   |true=>have:=Nat.eq_of_beq_eq_true he;subst this;simp only[cond_true,hb,if_true]
   |false=>simp only[cond_false]
  |false=>
   simp only[cond_false,look,lQ l i]
   cases he:Nat.beq i p.1 with
   |true=>have:=Nat.eq_of_beq_eq_true he;subst this;simp[hb]
   |false=>simp only[cond_false]
def pJ(keep:List Nat)(s:LSt):LSt:=⟨N1 keep s.H,s.nx,[],0,[]⟩
def Blk.lit:Blk->Prop
 | .cells cs=>∀(G G':Gh) (w w':World) (us:List Value),G'.F=G.F->(∀b o,G.F b->G.L b o->G'.L b o)->(∀b o,G.F b->w'.cell? ⟨b,o,none⟩=w.cell? ⟨b,o,none⟩)->VL G w cs us->VL G' w' cs us
 |_=>False
def zJX(G0 G:Gh)(keep:List Nat)(S:Nat->Nat->Prop):Gh:=⟨fun i=>if tQ keep i=true then G.ρ i else none,fun _=>none,fun b o=>G0.L b o∨S b o,G0.w0,G0.F,fun _=>False⟩
theorem VL.litEq{G:Gh}{w:World}:∀(vs us:List Value),VL G w (vs.map .val) us->us=vs
 | [],[],_=>rfl
 |v::vs,u::us,h=>by
  simp only[List.map_cons,VL,V]at h
  rw[h.1,VL.litEq vs us h.2]
 | [],_::_,h=>by simp only[List.map_nil,VL]at h
 |_::_,[],h=>by simp only[List.map_cons,VL]at h
theorem zQS{na:Nb}{G0 G:Gh}{W w w':World}{s:LSt}{keep:List Nat}{S:Nat->Nat->Prop}{b:Nat}(hB:lM na G0)(hn:na.n=0)(hE:Ext G0 W G w)(hR:yD G (yK (Emp 0) s) w)(hbF:¬G0.F b)(hbρ:∀i,G.ρ i≠some b)
  (hK:wW (fun c=>c<w.heap.size∧c≠b) w w') (hlit:∀i X,tQ keep i=true->look s.H i=some X->X.lit) (hS:∀c o,S c o->c=b∧∃v,w'.cell? ⟨c,o,none⟩=some v) :
  Ext G0 W (zJX G0 G keep S) w'∧yD (zJX G0 G keep S) (yK (Emp 0) (pJ keep s)) w':=by
 have hLlt:∀c o,G0.L c o->c<w.heap.size∧c≠b:=fun c o e=>⟨hR.base c (by rw[hE.F];exact hB.LF c o e),fun ec=>hbF (ec▸hB.LF c o e)⟩
 have hcell:∀c o,G0.L c o->w'.cell? ⟨c,o,none⟩=w.cell? ⟨c,o,none⟩:=fun c o e=>hK.cell (hLlt c o e)
 have hH:∀i,(yK (Emp 0) (pJ keep s)).H i=if tQ keep i=true then look s.H i else none:=fun i=>by rw[yX];exact lQ _ _
 refine⟨⟨fun i c e=>?_,fun k r e=>?_,fun _ _ e=>.inl e,fun c o e=>(hcell c o e).trans (hE.cell c o e),rfl,rfl,fun c o e=>e.imp id fun q=>by rw[(hS c o q).1];exact hbF,fun i b m e _=>(by rw[(hB.ρ i (by omega)).1]at e;cases e),fun i e=>absurd e (hB.ρ i (by omega)).2⟩,⟨fun i=>?_,?_,fun i j c hi hj=>?_,fun i c X hi hX=>?_,fun c o e=>?_,fun _ _=>rfl,fun k hk=>?_,fun k k' c f t f' t' hk=>?_,?_,fun k hk=>?_⟩⟩
 ·rw[(hB.ρ i (by omega)).1]at e;cases e
 ·rw[hB.τ k]at e;cases e
 ·rw[hH]
  show mH (if tQ keep i=true then G.ρ i else none) False _
  split
  ·rename_i hm
   have hd:=hR.dom i
   rw[yX]at hd
   refine⟨fun e=>.inr ?_,fun e=>⟨(hd.2.1 e).1,id⟩,fun e=>e.elim⟩
   rcases hd.1 e with q|q
   ·cases hX:look s.H i with
    |none=>rfl
    |some X=>
     have hl:=hlit i X hm hX
     have hv:=(hd.2.2 q).2 X hX
     cases X with
     |cells cs=>exact hv.elim
     |obj o=>exact hl.elim
     |row cs=>exact hl.elim
     |dead=>exact hl.elim
   ·exact q
  ·exact⟨fun _=>.inr rfl,fun _=>⟨rfl,id⟩,fun e=>e.elim⟩
 ·obtain⟨N,hN⟩:=hR.fin
  refine⟨N,fun i hi=>?_⟩
  have:=hN i hi
  rw[yX]at this
  rw[hH]
  split
  ·exact this
  ·rfl
 ·have hi':(if tQ keep i=true then G.ρ i else none)=some c:=hi
  have hj':(if tQ keep j=true then G.ρ j else none)=some c:=hj
  split at hi'
  ·split at hj'
   ·rename_i h1 h2
    have hno:∀t,tQ keep t=true->(yK (Emp 0) s).H t≠some .dead:=fun t ht hd=>by
     rw[yX]at hd;exact hlit t _ ht hd
    rcases hR.inj i j c hi' hj' with q|q|q
    ·exact .inl q
    ·exact(hno i h1 q).elim
    ·exact(hno j h2 q).elim
   ·cases hj'
  ·cases hi'
 ·have hi':(if tQ keep i=true then G.ρ i else none)=some c:=hi
  split at hi'
  ·rename_i hm
   rw[hH,if_pos hm]at hX
   obtain⟨q1,q2⟩:=hR.blk i c X hi' (by rw[yX];exact hX)
   refine⟨by rw[hE.F]at q1;exact q1,?_⟩
   have hl:=hlit i X hm hX
   cases X with
   |cells cs=>
    obtain⟨vs',T,q3,q4⟩:=q2
    refine⟨vs',T,?_,q4.imp fun us h=>hl G _ w w' us hE.F.symm (fun b o h1 h2=>?_) (fun b o h1=>?_) h⟩
    ·rw[hK.block c ⟨(Array.getElem?_eq_some_iff.1 q3).1,fun e=>hbρ i (e▸hi')⟩];exact q3
    ·exact .inl ((hE.newL b o h2).resolve_right fun h=>h (by rw[←hE.F];exact h1))
    ·exact hK.cell ⟨hR.base b h1,fun e=>hbF (by rw[←hE.F];exact e▸h1)⟩
   |obj o=>exact hl.elim
   |row cs=>exact hl.elim
   |dead=>exact hl.elim
  ·cases hi'
 ·rcases e with e|e
  ·obtain⟨⟨v,hv⟩,q⟩:=hR.live c o (hE.L c o e)
   refine⟨⟨v,(hcell c o e).trans hv⟩,fun i hi=>?_⟩
   have hi':(if tQ keep i=true then G.ρ i else none)=some c:=hi
   split at hi'
   ·exact q i hi'
   ·cases hi'
  ·obtain⟨rfl,hv⟩:=hS c o e
   refine⟨hv,fun i hi=>?_⟩
   have hi':(if tQ keep i=true then G.ρ i else none)=some c:=hi
   split at hi'
   ·exact hbρ i hi'
   ·cases hi'
 ·simp[uL,pJ]at hk
 ·simp[uL,pJ]at hk
 ·have:=hR.below
  rw[hE.F,hE.w0]at this
  exact this.trans (hK.mono fun k hk=>⟨hR.base k (by rw[hE.F];exact hk),fun e=>hbF (e▸hk)⟩)
 ·exact Nat.lt_of_lt_of_le (hR.base k (by rw[hE.F];exact hk)) hK.size
theorem zHQ{keep:List Nat}{s:LSt}(h:s.Ok):(pJ keep s).Ok:=by
 refine⟨fun i X hX=>?_,fun k hk=>by simp[pJ]at hk,(fun k h=>by cases h),Nat.zero_le _⟩
 have hX':look (N1 keep s.H) i=some X:=hX
 rw[lQ]at hX'
 split at hX'
 ·exact h.H i X hX'
 ·cases hX'
def mutEnv(keep:List Nat)(j:Nat->Value):List AV->Nat->List AV
 | [],_=>[]
 |a::l,t=>(match a with | .val v=>.val v | .mp i off=>bif tQ keep i then .mp i off else .val (j t)|_=>.val (j t))::mutEnv keep j l (t+1)
theorem VL.mutEnv{G0 G:Gh}{w w':World}{keep:List Nat}{S:Nat->Nat->Prop}(us0:List Value):∀(env:List AV) (us:List Value) (t:Nat),VL G w env us->(∀i,us0.getD (t+i) undef=us.getD i undef) ->
  VL (zJX G0 G keep S) w' (Ab.mutEnv keep (fun t=>us0.getD t undef) env t) us
 | [],[],_,_,_=>by simp[Ab.mutEnv,VL]
 |a::as0,u::us,t,hv,hu=>by
  simp only[VL]at hv
  have h0:us0.getD t undef=u:=by
   have:=hu 0
   simpa using this
  simp only[Ab.mutEnv,VL]
  refine⟨?_,VL.mutEnv us0 as0 us (t+1) hv.2 (fun i=>?_)⟩
  ·have h1:=hv.1
   split
   ·simpa only[V]using h1
   ·rename_i i off
    cases hm:tQ keep i with
    |true=>
     simp only[V,cond_true]at h1 ⊢
     obtain⟨c,hc,rfl⟩:=h1
     exact⟨c,by show (if tQ keep i=true then G.ρ i else none)=_;rw[if_pos hm];exact hc,rfl⟩
    |false=>simp only[cond_false,V];exact h0.symm
   ·simp only[V];exact h0.symm
  ·have:=hu (i+1)
   rw[show t+1+i=t+(i+1) by omega,this];simp
 | [],_::_,_,h,_=>by simp only[VL]at h
 |_::_,[],_,h,_=>by simp only[VL]at h
theorem VL.later{na:Nb}{G0 G:Gh}{W w:World}{a:List AV}{u:List Value}(hB:lM na G0)(hE:Ext G0 W G w)(hR:wW G.F G.w0 w)(h:VL G0 G0.w0 a u)(hn:na.n=0:=by first|rfl|assumption):VL G w a u:=by
 refine VL.mono (G:=G0) (w:=G0.w0) ⟨hE.ρ,hE.τ,hE.L,fun b o e=>?_,hE.w0,hE.F,hE.newL,fun i b m e _=>(by rw[(hB.ρ i (by omega)).1]at e;cases e),hE.N⟩ a u h
 have:=hR.cell (b:=b) (o:=o) (by rw[hE.F];exact hB.LF b o e)
 rw[hE.w0]at this
 exact this
theorem VL.back{na:Nb}{G0:Gh}{σ:ASt}{W:World}{a:List AV}{u:List Value}(hB:lM na G0)(hR:yD G0 σ W)(h:VL G0 W a u)(hn:na.n=0:=by first|rfl|assumption):VL G0 G0.w0 a u:=by
 refine VL.mono (G:=G0) (w:=W) ⟨fun _ _ e=>e,fun _ _ e=>e,fun _ _ e=>e,fun b o e=>?_,rfl,rfl,fun _ _ e=>.inl e,fun i b m e _=>(by rw[(hB.ρ i (by omega)).1]at e;cases e),fun _ e=>e⟩ a u h
 exact(hR.below.cell (hB.LF b o e)).symm
theorem zNr{P:Program}{f:FuncId}{fn:Func}{H0:List Blk}{args:List AV}{res:AV}{H1:List Blk}{nst:Nat}{na:Nb}(hna:na.n=H0.length)(hf:P.funcs[f]? = some fn)(hb:fn.body.isNone=false)
  (h:Dv P na (bod fn) (args++List.replicate (fn.ntmps-args.length) (.val undef)) (st0 H0) (lP P na fn res H1 nst)) {G0:Gh} {W:World} {cargs:Array Value} (hB:lM na G0) (hR:yD G0 (yK (Emp 0) (st0 H0)) W) (hv:VL G0 W args cargs.toList) :
  Calls P f cargs W fun e W'=>∃u G' s',e = .returned u∧Ext G0 W G' W'∧yD G' (yK (Emp 0) s') W'∧V G' W' res u ∧
   (∀i X,H1[i]? = some X->look s'.H i=some X)∧∀k,k<nst->s'.own.any (Nat.beq k)=true:=by
 cases hb':fn.body with
 |none=>rw[hb']at hb;cases hb
 |some c=>
 have hbod:bod fn=c:=by simp[bod,hb']
 rw[hbod]at h
 refine calls_of_wp hf hb' ?_
 have hlen:=VL.length _ _ hv
 have hR0:Rel G0 ⟨args++List.replicate (fn.ntmps-args.length) (.val undef),yK (Emp 0) (st0 H0)⟩ { tmps:=cargs++Array.replicate (fn.ntmps-cargs.size) undef,defers:=[] } W:=by
  refine⟨hR,?_,rfl⟩
  have:cargs.size=args.length:=by rw[←hlen];simp
  simp only[Array.toList_append,Array.toList_replicate,this]
  exact VL.append _ _ _ _ hv (VL.replicate _)
 have hok:(st0 H0).Ok:=by
  refine⟨fun i X hX=>?_,fun k hk=>by simp[st0]at hk,(fun k h=>by cases h),Nat.zero_le _⟩
  have hX':look (nL H0 0) i=some X:=hX
  rw[pQ]at hX'
  simp only[Nat.zero_le,if_true,Nat.sub_zero]at hX'
  exact(List.getElem?_eq_some_iff.1 hX').1
 refine wp_mono (h G0 W hB G0 _ W (Ext.refl G0 W) hok hR0) ?_
 rintro e a' w' ⟨x,env1,s1,G₂,rfl,⟨hx,rs,env',s',hrs,r,keep,ks,hres,hreB,hfb,hfr,hle,⟨ow,hH1⟩,hnst⟩,hE2,hok2,hR2⟩
 obtain⟨G₁,hE1,hok',hR'⟩:=Rel.restamps rs hrs hok2 hR2
 have hE:=hE2.trans hE1
 have hres':E5 P (yK (Emp 0) s').H env' fn.results.toList=some r:=by
  refine Y9 (fun i X hX=>?_) hres
  rw[yX];exact hX
 obtain⟨u,hu,huv⟩:=zGv (fn:=fn) hR' hres'
 obtain⟨G',h1,h2,h3,h4⟩:=L5 hreB hfb hB.ρ hB.τ hE hR'.st
 have hV:=hle _ _ _ (V.ren h4 r u hfr huv)
 have hend:a'.defers=[]∧∃v',(results fn a'.tmps).run P w' = .ok v' w'∧∃u G' s',Ending.returned v' = .returned u∧Ext G0 W G' w'∧yD G' (yK (Emp 0) s') w'∧V G' w' res u ∧
   (∀i X,H1[i]? = some X->look s'.H i=some X)∧∀k,k<nst->s'.own.any (Nat.beq k)=true:=by
  refine⟨hR'.dfr,u,hu,u,G',zBD ow (pP keep ks s'),rfl,h1,h3.frz ow,hV,fun i X hX=>?_,fun k hk=>?_⟩
  ·rw[hH1,List.getElem?_map]at hX
   cases hY:(vL (pP keep ks s').H 0 keep.length)[i]? with
   |none=>rw[hY]at hX;cases hX
   |some Y=>
   rw[hY]at hX
   simp only[Option.map_some,Option.some.injEq]at hX
   subst hX
   show look (iT ow (pP keep ks s').H) i=_
   rw[pR]
   have:=jQ keep.length 0 i Y hY
   simp only[Nat.zero_add]at this
   rw[this]
   ·rfl
   have hlt:i<keep.length:=by
    have:=(List.getElem?_eq_some_iff.1 hY).1
    have hl:∀n j,(vL (pP keep ks s').H j n).length=n:=by
     intro n
     induction n with
     |zero=>intro j;rfl
     |succ n ih=>intro j;simp[vL,ih]
    rwa[hl]at this
   show ∃Y,look (qF s'.H keep ks keep 0) i=some Y
   rw[qZ]
   simp only[Nat.zero_le,if_true,Nat.sub_zero,List.getElem?_eq_getElem hlt,Option.map_some]
   exact⟨_,rfl⟩
  ·show (range' 0 ks.length).any (Nat.beq k)=true
   rw[wB,qG];omega
 rcases hx with rfl|rfl
 ·exact hend
 ·exact hend
theorem VL.put{G:Gh}{w:World}:∀(as0:List AV) (us:List Value),VL G w as0 us->∀(i:Nat) (a:AV),(∀u,us[i]? = some u->V G w a u)->VL G w (as0.set i a) us
 | [],[],_,i,a,_=>by simp[VL]
 |x::as0,y::us,h,i,a,hv=>by
  simp only[VL]at h
  cases i with
  |zero=>simp only[List.set_cons_zero,VL];exact⟨hv y rfl,h.2⟩
  |succ i=>simp only[List.set_cons_succ,VL];exact⟨h.1,VL.put as0 us h.2 i a fun u hu=>hv u (by simpa using hu)⟩
 | [],_::_,h,_,_,_=>by simp only[VL]at h
 |_::_,[],h,_,_,_=>by simp only[VL]at h
def wA:Code->Array Oper | .region _ ops _=>ops|_=>#[]
def cI:Code->Bool | .region _ _ false=>true|_=>false
def zQg:Code->Bool | .ret=>true|_=>false
def zHR:Option Oper->Option (Option Tmp×Operand)
 |some ⟨d,.move x,_,_,_,none⟩=>some (d,x)
 |some ⟨d,.assign x,_,_,_,none⟩=>some (d,x)
 |_=>none
def zAo:Option Oper->Option (Option Tmp×FuncId×Array Operand)
 |some ⟨d,.call { callee:=.value (.func f),args,argTypes:=_ },_,_,_,none⟩=>some (d,f,args)
 |_=>none
section
variable {P:Program} {a:Act} {w:World} {Q:Exit->Act->World->Prop}
theorem zAn{c:Code}(hk:knd c=1)(h:(lft c).wp P (Exit.then ((rgt c).wp P Q) Q) a w):c.wp P Q a w:=by
 cases c<;>first|exact wp_seq h|cases hk
theorem dD{c:Code}(hk:cI c=true){l:List Nat}(hl:List.range (wA c).size=l)(h:wpOps P (wA c) Q l a w):c.wp P Q a w:=by
 subst hl
 cases c with
 |region id ops draw=>
  cases draw with
  |false=>exact wp_region h
  |true=>cases hk
 |_=>cases hk
theorem zNq{c:Code}(hk:zQg c=true)(h:Q .ret a w):c.wp P Q a w:=by
 cases c<;>first|exact wp_ret h|cases hk
theorem cJ{ops:Array Oper}{rest:List Nat}{i:Nat}{d:Option Tmp}{x:Operand}(hop:zHR ops[i]? = some (d,x))(h:wpOps P ops Q rest (a.put d (a.eval x)) w):wpOps P ops Q (i::rest) a w:=by
 rw[wpOps_cons]
 unfold wpOp
 unfold zHR at hop
 split at hop
 ·rename_i o e
  cases hop
  rw[e]
  simp only[Region.wanted,if_true]
  refine .inl ?_
  unfold Oper.wp
  simpa[execOp,Oper.upon]using h
 ·rename_i o e
  cases hop
  rw[e]
  simp only[Region.wanted,if_true]
  refine .inl ?_
  unfold Oper.wp
  simpa[execOp,Oper.upon]using h
 ·cases hop
theorem N2{ops:Array Oper}{rest:List Nat}{i:Nat}{d:Option Tmp}{args:Array Operand}{f:FuncId}{fn:Func}(hop:zAo ops[i]? = some (d,f,args))
  (hf:P.funcs[f]? = some fn) (hname:(fn.name == "runtime.NumGoroutine")=false) (hb:fn.body.isNone=false)
  (h:Calls P f (args.map a.eval) w fun e w'=>∃u,e = .returned u∧wpOps P ops Q rest (a.put d u) w'):wpOps P ops Q (i::rest) a w:=by
 rw[wpOps_cons]
 unfold wpOp
 unfold zAo at hop
 split at hop
 ·rename_i e
  cases hop
  rw[e]
  simp only[Region.wanted,if_true]
  exact .inl (zHP (f:=f) (fn:=fn) rfl hf hname hb h)
 ·cases hop
end
def tells:List (Nat×AV)->List AV->List AV
 | [],env=>env
 |p::l,env=>tells l (env.set p.1 p.2)
theorem VL.tells{G:Gh}{w:World}:∀(l:List (Nat×AV)) (as0:List AV) (us:List Value),VL G w as0 us->(∀p∈l,∀u,us[p.1]? = some u->V G w p.2 u)->VL G w (Ab.tells l as0) us
 | [],_,_,h,_=>h
 |p::l,as0,us,h,k=>VL.tells l _ us (VL.put as0 us h p.1 p.2 (k p List.mem_cons_self)) fun q hq=>k q (List.mem_cons_of_mem _ hq)
theorem VL.getE{G:Gh}{w:World}{env:List AV}{us:List Value}(h:VL G w env us){t:Nat}{u:Value}(hu:us[t]? = some u):V G w (eget env t) u:=by
 have:=V.eget env us h t
 have e:us.getD t undef=u:=by simp[List.getD,hu]
 rwa[e]at this
theorem Dv.mut{P:Program}{pr:FuncId->List AV->LSt->Option LA}(hp:tK P pr){na:Nb}(hn:na.n=0){Q:AX->List AV->LSt->Prop}{id:Nat}{ops:Array Oper}{env env1:List AV}{s s1 s3:LSt}{os os2:List Orc}{ob ob2:List Ob}(p:Nat)(keep:List Nat)(tell:List (Nat×AV))(res:AV)
  {dst:Option Tmp} {tA:Tmp} {f:FuncId} {fn:Func} {E3:(Nat->Value)->List AV}
  (h1':(eD P pr ops (ops.toList.take p) 0 env s os).map Prod.snd=some (env1,s1,[],ob)) (hob:yB P ob)
  (hop:zAo ops[p]? = some (dst,f,#[.tmp tA]))
  (hf:P.funcs[f]? = some fn) (hname:(fn.name == "runtime.NumGoroutine")=false) (hb:fn.body.isNone=false)
  (hlit:∀i X,tQ keep i=true->look s1.H i=some X->X.lit)
  (hcall:∀G0 W,lM na G0->∀G w,Ext G0 W G w->yD G (yK (Emp 0) s1) w->∀u,V G w (eget env1 tA) u->Calls P f #[u] w fun e w'=>∃(v:Value) (b:Nat) (S:Nat->Nat->Prop),e = .returned v∧¬G.F b∧(∀i,G.ρ i≠some b)∧wW (fun c=>c<w.heap.size∧c≠b) w w' ∧
   (∀c o,S c o->c=b∧∃x,w'.cell? ⟨c,o,none⟩=some x)∧∀G',Ext G0 W G' w'->wW G'.F G'.w0 w'->(∀c o,S c o->G'.L c o)->V G' w' res v∧∀q∈tell,∀u',V G w (eget env1 q.1) u'->V G' w' q.2 u')
  (h2':∀j,(eD P pr ops (ops.toList.drop (p+1)) (p+1) (eset (tells tell (mutEnv keep j env1 0)) dst res) (pJ keep s1) os2).map Prod.snd=some (E3 j,s3,[],ob2)) (hob2:yB P ob2)
  (hk:∀j,Q .normal (E3 j) s3):Dv P na (.region id ops false) env s Q:=by
 have mp:∀ {x:Option (List (Nat×Option LA)×List AV×LSt×List Orc×List Ob)} {y},x.map Prod.snd=some y->∃r,x=some (r,y):=by
  intro x y h
  simp only[Option.map_eq_some_iff]at h
  obtain⟨⟨r,z⟩,h1,rfl⟩:=h
  exact⟨r,h1⟩
 obtain⟨r,h1⟩:=mp h1'
 intro G0 W hB G a w hE hok hR
 have hlt:p<ops.size:=by
  rcases Nat.lt_or_ge p ops.size with h|h
  ·exact h
  ·rw[Array.getElem?_eq_none h]at hop;cases hop
 obtain⟨_,q2,q3⟩:=I4 hp (ops.toList.take p) 0 env s os r _ _ _ _ (fun k o e=>by
  rw[List.getElem?_take]at e
  split at e
  ·simpa using e
  ·cases e) h1 hob
 obtain⟨o1,r1⟩:=q3 (Emp 0) 0 hok (fun _ _ _=>rfl)
 refine wp_region ?_
 have hr:List.range ops.size=r.map (·.1)++p::List.range' (p+1) (ops.size-(p+1)):=by
  rw[q2,List.range_eq_range']
  have hl:(ops.toList.take p).length=p:=by simp;omega
  rw[hl,show p::List.range' (p+1) (ops.size-(p+1))=List.range' p (ops.size-p) by
   rw[show ops.size-p=(ops.size-(p+1))+1 by omega,List.range'_succ]]
  have:=List.range'_append (s:=0) (m:=p) (n:=ops.size-p) (step:=1)
  simp only[Nat.one_mul,Nat.zero_add]at this
  rw[this];congr 1;omega
 rw[hr]
 refine aG r _ _ r1 G a w hR fun G1 a1 w1 hE1 hR1=>?_
 have hEE:=hE.trans hE1
 have hu:V G1 w1 (eget env1 tA) (a1.eval (.tmp tA)):=by
  have:=V.aev hR1.env (.tmp tA)
  simpa[aev]using this
 refine N2 hop hf hname hb ?_
 rw[show Array.map a1.eval #[Operand.tmp tA] = #[a1.eval (Operand.tmp tA)] by simp]
 refine(hcall G0 W hB G1 w1 hEE hR1.st _ hu).mono ?_
 rintro e w2 ⟨v,b,S,rfl,hbF,hbρ,hK,hS,hV⟩
 refine⟨v,rfl,?_⟩
 obtain⟨hE2,hR2⟩:=zQS (keep:=keep) hB hn hEE hR1.st (by rw[←hEE.F];exact hbF) hbρ hK hlit hS
 obtain⟨hv,ht⟩:=hV _ hE2 hR2.below (fun c o h=>.inr h)
 have henv:VL (zJX G0 G1 keep S) w2 (eset (tells tell (mutEnv keep (fun t=>a1.tmps.toList.getD t undef) env1 0)) dst res) (a1.put dst v).tmps.toList:=by
  refine VL.eset ?_ dst hv
  refine VL.tells tell _ _ (VL.mutEnv _ env1 _ 0 hR1.env (fun i=>by rw[Nat.zero_add])) fun q hq u' hu'=>ht q hq u' (hR1.env.getE hu')
 have hR3:Rel (zJX G0 G1 keep S) ⟨eset (tells tell (mutEnv keep (fun t=>a1.tmps.toList.getD t undef) env1 0)) dst res,yK (Emp 0) (pJ keep s1)⟩ (a1.put dst v) w2:=⟨hR2,henv,by rw[b7];exact hR1.dfr⟩
 have hok2:=zHQ (keep:=keep) o1
 obtain⟨r2,h2⟩:=mp (h2' fun t=>a1.tmps.toList.getD t undef)
 obtain⟨_,q5,q6⟩:=I4 hp (ops.toList.drop (p+1)) (p+1) _ _ os2 r2 _ _ _ _ (fun k o e=>by
  rw[List.getElem?_drop]at e
  simpa using e) h2 hob2
 obtain⟨o3,r3⟩:=q6 (Emp 0) 0 hok2 (fun _ _ _=>rfl)
 have e5:List.range' (p+1) (ops.size-(p+1))=r2.map (·.1)++[]:=by
  rw[q5,List.append_nil];simp
 rw[e5]
 refine aG r2 _ _ r3 _ _ w2 hR3 fun G4 a4 w4 hE4 hR4=>?_
 exact⟨.normal,_,s3,G4,rfl,hk _,hE2.trans hE4,o3,hR4⟩
theorem zNp{c:Code}(hk:cI c=true):∃id,c = .region id (wA c) false:=by
 cases c with
 |region id ops draw=>
  cases draw with
  |false=>exact⟨id,rfl⟩
  |true=>cases hk
 |_=>cases hk
theorem Dv.seqP{P:Program}{na:Nb}{c:Code}{env:List AV}{s:LSt}{Q:AX->List AV->LSt->Prop}(hk:knd c=1)(h:Dv P na (lft c) env s (zEk (fun e s=>Dv P na (rgt c) e s Q) Q)):Dv P na c env s Q:=by
 cases c<;>first|exact Dv.seq h|cases hk
theorem Dl.openB{P:Program}{na:Nb}{c:Code}{env:List AV}{s:LSt}{Q:AX->List AV->LSt->Prop}{b:Nat}{cs cs':List AV}(hcs:look s.H b=some (.cells cs))
  (h:∀G0 W,lM na G0->∀G w,Ext G0 W G w->wW G.F G.w0 w->∀us,VL G w cs us->VL G w cs' us) (k:Dl P na c env { s with H:=xJ s.H b (.cells cs') } Q):Dl P na c env s Q:=by
 intro G0 W hB G a w hE ho hR
 have hM:=hR.st
 have hl:∀j,look (xJ s.H b (.cells cs')) j=if j=b then some (.cells cs')else look s.H j:=fun j=>uV _ _ _ _ _ hcs
 have hdd:∀i,(yK (Emp 0) s).H i=some .dead->(yK (Emp 0) ⟨xJ s.H b (.cells cs'),s.nx,s.own,s.ns,s.dirty⟩).H i=some .dead:=by
  intro i hi
  rw[yX]at hi ⊢
  show look (xJ s.H b (.cells cs')) i=_
  rw[hl,if_neg (fun e=>by subst e;rw[hcs]at hi;cases hi)]
  exact hi
 refine k G0 W hB G a w hE ⟨fun i X hX=>?_,ho.own,ho.fr,Nat.zero_le _⟩ ⟨⟨fun i=>?_,?_,fun i j q hi hj=>(hM.inj i j q hi hj).imp id (Or.imp (hdd i) (hdd j)),fun i q X hi hX=>?_,hM.live,hM.τns,hM.own,hM.ownd,hM.below,hM.base⟩,hR.env,hR.dfr⟩
 ·have hX':look (xJ s.H b (.cells cs')) i=some X:=hX
  rw[hl]at hX'
  by_cases e:i=b
  ·subst e;exact ho.H i _ hcs
  ·rw[if_neg e]at hX';exact ho.H i X hX'
 ·have hd:=hM.dom i
  rw[yX]at hd ⊢
  show mH _ _ (look (xJ s.H b (.cells cs')) i)
  rw[hl]
  by_cases e:i=b
  ·subst e
   rw[if_pos rfl]
   rw[hcs]at hd
   exact⟨fun q=>(hd.1 q).imp id fun q=>(by cases q),fun q=>(by cases q),fun q=>((hd.2.2 q).2 _ rfl).elim⟩
  ·rw[if_neg e];exact hd
 ·obtain⟨N,hN⟩:=hM.fin
  refine⟨max N (b+1),fun i hi=>?_⟩
  have:=hN i (by omega)
  rw[yX]at this ⊢
  show look (xJ s.H b (.cells cs')) i=none
  rw[hl,if_neg (by omega)];exact this
 ·rw[yX]at hX
  have hX':look (xJ s.H b (.cells cs')) i=some X:=hX
  rw[hl]at hX'
  by_cases e:i=b
  ·subst e
   rw[if_pos rfl]at hX'
   cases hX'
   obtain⟨q1,vs,T,q2,q3⟩:=hM.blk i q _ hi (by rw[yX];exact hcs)
   exact⟨q1,vs,T,q2,q3.imp fun us q3=>h G0 W hB G w hE hM.below us q3⟩
  ·rw[if_neg e]at hX'
   exact hM.blk i q X hi (by rw[yX];exact hX')
open Go.Lib
def N3(x:Int):List Int->List Int
 | []=>[x]
 |y::l=>if x≤y then x::y::l else y::N3 x l
def eK:List Int->List Int
 | []=>[]
 |x::l=>N3 x (eK l)
def pB:List Int->List Int
 | []=>[]
 |x::l=>match l with
  | []=>[x]
  |y::_=>if x=y then pB l else x::pB l
def wO(l:List Int):List Int:=pB (eK l)
theorem dF(x:Int):∀l,(N3 x l).Perm (x::l)
 | []=>.refl _
 |y::l=>by
  simp only[N3]
  split
  ·exact .refl _
  ·exact((dF x l).cons y).trans (.swap x y l)
theorem lR:∀l,(eK l).Perm l
 | []=>.refl _
 |x::l=>(dF x (eK l)).trans ((lR l).cons x)
theorem cK(x:Int):∀l,l.Pairwise (· ≤ ·)->(N3 x l).Pairwise (· ≤ ·)
 | [],_=>by simp[N3]
 |y::l,h=>by
  simp only[N3]
  rw[List.pairwise_cons]at h
  split
  ·rename_i hxy
   rw[List.pairwise_cons]
   refine⟨fun z hz=>?_,List.pairwise_cons.2 h⟩
   rcases List.mem_cons.1 hz with rfl|hz
   ·exact hxy
   ·exact Int.le_trans hxy (h.1 z hz)
  ·rename_i hxy
   rw[List.pairwise_cons]
   refine⟨fun z hz=>?_,cK x l h.2⟩
   rcases List.mem_cons.1 ((dF x l).mem_iff.1 hz)with rfl|hz
   ·omega
   ·exact h.1 z hz
theorem lS:∀l,(eK l).Pairwise (· ≤ ·)
 | []=>.nil
 |x::l=>cK x _ (lS l)
theorem E6(l:List Int):l.mergeSort (fun x y=>decide (x≤y))=eK l:=by
 have h1:(l.mergeSort (fun x y=>decide (x≤y))).Perm (eK l):=(List.mergeSort_perm l _).trans (lR l).symm
 have h2:(l.mergeSort (fun x y=>decide (x≤y))).Pairwise (· ≤ ·):=by
  have:=List.pairwise_mergeSort (le:=fun(x y:Int)=>decide (x≤y)) (fun a b c h1 h2=>by simp only[decide_eq_true_eq]at *;omega) (fun a b=>by simp only[Bool.or_eq_true,decide_eq_true_eq];omega) l
  exact this.imp fun h=>by simpa using h
 exact h1.eq_of_pairwise (fun a b _ _ h1 h2=>Int.le_antisymm h1 h2) h2 (lS l)
theorem qI(x y:Int)(l:List Int):pB (x::y::l)=if x=y then pB (y::l)else x::pB (y::l):=rfl
theorem Z4(x:Int):∀l:List Int,pB (l++[x])=if l=[]∨l.getLast?≠some x then pB l++[x]else pB l
 | []=>by simp[pB]
 | [y]=>by
  show pB (y::x::[])=_
  rw[qI]
  by_cases h:y=x
  ·subst h;simp[pB]
  ·simp[h,pB]
 |y::z::l=>by
  have ih:=Z4 x (z::l)
  show pB (y::z::(l++[x]))=_
  rw[qI,qI]
  simp only[List.cons_append]at ih
  rw[ih]
  have e:(y::z::l).getLast? = (z::l).getLast?:=by simp[List.getLast?_cons_cons]
  rw[e]
  by_cases h:y=z
  ·simp only[h,if_true]
   split<;>split<;>simp_all
  ·simp only[h,if_false]
   split<;>split<;>simp_all
theorem cL(zs:List Int):∀m,m≤zs.length->compactUpTo zs.toArray m=pB (zs.take m)
 |0,_=>by simp[compactUpTo,pB]
 |m+1,h=>by
  rw[compactUpTo_succ,cL zs m (by omega),List.take_succ_eq_append_getElem (by omega),Z4]
  have hm:zs.toArray[m]! = zs[m]:=by simp[show m<zs.length by omega]
  rcases Nat.eq_zero_or_pos m with rfl|hpos
  ·simp[keeps,pB,show 0<zs.length by omega]
  ·have hl:(zs.take m).getLast? = some zs[m-1]:=by
    rw[List.getLast?_eq_getElem?,List.length_take,Nat.min_eq_left (show m≤zs.length by omega),List.getElem?_take_of_lt (show m-1<m by omega),List.getElem?_eq_getElem (show m-1<zs.length by omega)]
   have hm':zs.toArray[m-1]! = zs[m-1]:=by simp[show m-1<zs.length by omega]
   have hne:¬zs.take m=[]:=by
    intro e
    have:=congrArg List.length e
    rw[List.length_take,Nat.min_eq_left (show m≤zs.length by omega),List.length_nil]at this
    omega
   rw[hl]
   simp only[hne,false_or,ne_eq,Option.some.injEq]
   by_cases e:zs[m]=zs[m-1]
   ·rw[keeps_neg hpos (by rw[hm,hm',e])]
    simp[e]
   ·rw[keeps_pos (by rw[hm,hm'];exact e)]
    have e':¬zs[m-1]=zs[m]:=fun h=>e h.symm
    simp[e',hm]
theorem zHS(l:List Int):compactUpTo (l.mergeSort fun x y=>decide (x≤y)).toArray (l.mergeSort fun x y=>decide (x≤y)).toArray.size=wO l:=by
 rw[E6]
 have:=cL (eK l) (eK l).length (Nat.le_refl _)
 rw[List.take_length]at this
 simpa[wO]using this
theorem zBM:∀l:List Int,(pB l).length≤l.length
 | []=>by simp[pB]
 | [x]=>by simp[pB]
 |x::y::l=>by
  rw[qI]
  have:=zBM (y::l)
  split
  ·simp at this ⊢;omega
  ·simp at this ⊢;omega
theorem N4(l:List Int):(wO l).length≤l.length:=by
 have:=zBM (eK l)
 rw[(lR l).length_eq]at this
 exact this
end Go.Ab
namespace Go.Ab
open Go Go.RowKit Go.Sort
variable {P:Program}
theorem Calls.args{P:Program}{f:FuncId}{a b:Array Value}{w:World}{R:Ending->World->Prop}(h:a=b)(k:Calls P f b w R):Calls P f a w R:=h▸k
theorem zJY{P:Program}{c:Code}{Q:Exit->Act->World->Prop}{a b:Act}{w:World}(h:a=b)(k:c.wp P Q b w):c.wp P Q a w:=h▸k
theorem cM{α:Type}[Inhabited α](enc:α->Value)(w:World)(b off:Nat)(d:Array α){k:Nat}(hk:k≠b):(putRow enc w b off d).heap[k]? = w.heap[k]?:=by
 simp only[putRow,mapBlock,Array.getElem?_modify]
 rw[if_neg (fun e=>hk e.symm)]
theorem wW.putRow{α:Type}[Inhabited α](enc:α->Value)(w:World)(n b off:Nat)(d:Array α):wW (fun c=>c<w.heap.size∧c≠b) w (putRow enc (Sort.ahead w n) b off d):=
 ⟨rfl,rfl,rfl,by simp,fun k hk=>by rw[cM _ _ _ _ _ hk.2];rfl⟩
theorem wW.grow(w:World)(os:Array Obj)(b:Nat):wW (fun c=>c<w.heap.size∧c≠b) w (grow w os):=
 ⟨rfl,rfl,rfl,by simp[Sort.grow],fun k hk=>by
  show (w.heap++os)[k]? = _
  rw[Array.getElem?_append_left hk.1]⟩
end Go.Ab
namespace Go.Proofs.YthncchbcdpbgaaaGreat
open Go Go.Ab Go.RowKit Go.Sort Go.Proofs
theorem zHT{w:World}{b off cap:Nat}{zs:List Int}(hH:Holds (Value.int .i64) w b off zs.toArray)(hb:b<w.heap.size)(hsz:zs.length<4611686018427387904) :
  Calls Tryz.prog 292 #[.slice (some ⟨b,off,none⟩) zs.length cap] w fun e w'=>e = .returned (.tuple #[])∧∃n os,w'=Sort.grow (putRow (Value.int .i64) (Sort.ahead w n) b off (zs.mergeSort fun x y=>decide (x≤y)).toArray) os:=
 AnyM.slices_Sort_int Tryz.sortI b off cap zs w hH hb hsz
theorem zAm{w:World}{b off cap:Nat}{zs:List Int}(hH:Holds (Value.int .i64) w b off zs.toArray)(hsz:zs.length<4611686018427387904)(hcap:zs.length≤cap) :
  Calls Tryz.prog 293 #[.slice (some ⟨b,off,none⟩) zs.length cap] w fun e w'=>e = .returned (.slice (some ⟨b,off,none⟩) (Go.Lib.compactUpTo zs.toArray zs.toArray.size).length cap)∧∃q,w'=putRow (Value.int .i64) (Sort.ahead w q) b off (Go.Lib.compactUpTo zs.toArray zs.toArray.size++List.replicate (zs.toArray.size-(Go.Lib.compactUpTo zs.toArray zs.toArray.size).length) 0).toArray:=by
 have:=AnyE.slices_Compact Tryz.cmpI (Value.int .i64) (fun _=>rfl) (EqlAt.intD _ _ .i64) (NeqAt.intD _ _ .i64) 0 Tryz.zeroValue3 b off cap zs.toArray w hH (by simp;omega) (by simpa using hcap)
 simpa[show Tryz.cmpI_ren.f 43=293 from rfl]using this
theorem Z5{w:World}{u:Value}{M:World->Prop}{N:World->Value->Prop}(hs:Calls Tryz.prog 292 #[u] w fun e w1=>e = .returned (.tuple #[])∧M w1)(hc:∀w1,M w1->Calls Tryz.prog 293 #[u] w1 fun e w2=>∃v,e = .returned v∧N w2 v) :
  Calls Tryz.prog 250 #[u] w fun e w'=>∃v,e = .returned v∧N w' v:=by
 refine calls_of_wp Tryz.func250 (c:=bod Tryz.f250) (by kernel_rfl) ?_
 have k0:knd (bod Tryz.f250)=1:=by kernel_rfl
 have k1:cI (lft (bod Tryz.f250))=true:=by kernel_rfl
 have k2:List.range (wA (lft (bod Tryz.f250))).size=[0]:=by kernel_rfl
 have k3:zHR (wA (lft (bod Tryz.f250)))[0]? = some (some 2,.const (.slice none 0 0)):=by kernel_rfl
 have k4:knd (rgt (bod Tryz.f250))=1:=by kernel_rfl
 have k5:cI (lft (rgt (bod Tryz.f250)))=true:=by kernel_rfl
 have k6:List.range (wA (lft (rgt (bod Tryz.f250)))).size=[0,1]:=by kernel_rfl
 have k7:zHR (wA (lft (rgt (bod Tryz.f250))))[0]? = some (some 3,.tmp 0):=by kernel_rfl
 have k8:zAo (wA (lft (rgt (bod Tryz.f250))))[1]? = some (some 4,292,#[.tmp 3]):=by kernel_rfl
 have k9:knd (rgt (rgt (bod Tryz.f250)))=1:=by kernel_rfl
 have k10:cI (lft (rgt (rgt (bod Tryz.f250))))=true:=by kernel_rfl
 have k11:List.range (wA (lft (rgt (rgt (bod Tryz.f250))))).size=[0,1,2]:=by kernel_rfl
 have k12:zHR (wA (lft (rgt (rgt (bod Tryz.f250)))))[0]? = some (some 5,.tmp 0):=by kernel_rfl
 have k13:zAo (wA (lft (rgt (rgt (bod Tryz.f250)))))[1]? = some (some 6,293,#[.tmp 5]):=by kernel_rfl
 have k14:zHR (wA (lft (rgt (rgt (bod Tryz.f250)))))[2]? = some (some 2,.tmp 6):=by kernel_rfl
 have k15:zQg (rgt (rgt (rgt (bod Tryz.f250))))=true:=by kernel_rfl
 have k16:(Tryz.f292.name == "runtime.NumGoroutine")=false:=by kernel_rfl
 have k17:Tryz.f292.body.isNone=false:=by kernel_rfl
 have k18:(Tryz.f293.name == "runtime.NumGoroutine")=false:=by kernel_rfl
 have k19:Tryz.f293.body.isNone=false:=by kernel_rfl
 have k20:Tryz.f250.ntmps=7:=by kernel_rfl
 have k21:Tryz.f250.results = #[.tmp 2]:=by kernel_rfl
 rw[k20]
 revert k0 k1 k2 k3 k4 k5 k6 k7 k8 k9 k10 k11 k12 k13 k14 k15
 generalize bod Tryz.f250=B
 intro k0 k1 k2 k3 k4 k5 k6 k7 k8 k9 k10 k11 k12 k13 k14 k15
 refine zAn k0 ?_
 refine dD k1 k2 ?_
 refine cJ k3 ?_
 unfold wpOps
 unfold Exit.then
 dsimp only
 refine zAn k4 ?_
 refine dD k5 k6 ?_
 refine cJ k7 ?_
 refine N2 k8 Tryz.func292 k16 k17 ?_
 refine Calls.args (b:=#[u]) (by simp[Act.eval,Act.put]) (Calls.mono hs ?_)
 rintro e w1 ⟨rfl,hM⟩
 refine⟨_,rfl,?_⟩
 unfold wpOps
 unfold Exit.then
 dsimp only
 refine zJY (b:=⟨#[u,undef,.slice none 0 0,u,.tuple #[],undef,undef],[]⟩) (by simp[Act.eval,Act.put,Array.replicate_succ]) ?_
 refine zAn k9 ?_
 refine dD k10 k11 ?_
 refine cJ k12 ?_
 refine N2 k13 Tryz.func293 k18 k19 ?_
 refine Calls.args (b:=#[u]) (by simp[Act.eval,Act.put]) (Calls.mono (hc w1 hM) ?_)
 rintro e w2 ⟨v,rfl,hN⟩
 refine⟨_,rfl,?_⟩
 refine cJ k14 ?_
 unfold wpOps
 unfold Exit.then
 dsimp only
 refine zJY (b:=⟨#[u,undef,v,u,.tuple #[],u,v],[]⟩) (by simp[Act.eval,Act.put]) ?_
 refine zNq k15 ?_
 exact⟨rfl,v,by simp[results,k21],v,rfl,hN⟩
theorem zHU{w:World}{b off cap:Nat}{zs:List Int}(hH:Holds (Value.int .i64) w b off zs.toArray)(hb:b<w.heap.size)(hsz:zs.length<4611686018427387904)(hcap:zs.length≤cap) :
  Calls Tryz.prog 250 #[.slice (some ⟨b,off,none⟩) zs.length cap] w fun e w'=>e = .returned (.slice (some ⟨b,off,none⟩) (wO zs).length cap)∧wW (fun c=>c<w.heap.size∧c≠b) w w' ∧
   ∀i (h:i<(wO zs).length),w'.cell? ⟨b,off+i,none⟩=some (.int .i64 (wO zs)[i]):=by
 have hl:(zs.mergeSort fun x y=>decide (x≤y)).length=zs.length:=List.length_mergeSort _
 refine(Z5 (zHT (cap:=cap) hH hb hsz) (N:=fun w' v=>v = .slice (some ⟨b,off,none⟩) (wO zs).length cap∧wW (fun c=>c<w.heap.size∧c≠b) w w' ∧
   ∀i (h:i<(wO zs).length),w'.cell? ⟨b,off+i,none⟩=some (.int .i64 (wO zs)[i])) ?_).mono (fun e w' ⟨v,h1,h2,h3,h4⟩=>⟨by rw[h1,h2],h3,h4⟩)
 rintro w1 ⟨n,os,rfl⟩
 have hH1:Holds (Value.int .i64) (Sort.grow (putRow (Value.int .i64) (Sort.ahead w n) b off (zs.mergeSort fun x y=>decide (x≤y)).toArray) os) b off (zs.mergeSort fun x y=>decide (x≤y)).toArray:=
  holds_grow _ _ _ _ _ _ (by simpa using hb) (holds_putRow _ _ _ _ zs.toArray _ hH (by simp[hl]))
 have hc:=zAm (cap:=cap) hH1 (by omega) (by omega)
 rw[hl]at hc
 refine Calls.mono hc ?_
 rintro e w2 ⟨rfl,q,rfl⟩
 refine⟨_,rfl,?_⟩
 rw[zHS]
 have hrl:=N4 zs
 refine⟨rfl,(wW.trans (wW.trans (wW.putRow _ w n b off _) ((wW.grow _ os b).mono fun k hk=>⟨by simpa using hk.1,hk.2⟩)) ((wW.putRow _ _ q b off _).mono fun k hk=>⟨?_,hk.2⟩)),fun i h=>?_⟩
 ·show k<((putRow _ _ _ _ _).heap++os).size
  simp;have:=hk.1;omega
 ·rw[cell?_putRow (Value.int .i64) _ b off (zs.mergeSort fun x y=>decide (x≤y)).toArray _ (holds_ahead _ _ _ _ _ _ hH1) (by simp[hl];omega) i (by simp;omega)]
  simp[List.getElem?_append_left h,h]
theorem zSO:vV Tryz.prog 293 [] [.sl [] 0 .no] (.sl [] 0 .no) [] 0:=
 vV.toFin xI mixed Tryz.func293 (by kernel_rfl) 3000 [.no,.no] [] [] [] false (by kernel_rfl) (yB.cons (rG (es:=[]) trivial) yB.nil) (by decide)
def atW(w:World):Gh:=⟨fun _=>none,fun _=>none,fun _ _=>False,w,fun c=>c<w.heap.size,fun _=>False⟩
theorem zNo(w:World):yD (atW w) (yK (Emp 0) (st0 [])) w:=by
 refine⟨fun _=>⟨fun _=>.inr rfl,fun _=>⟨rfl,id⟩,fun e=>e.elim⟩,⟨0,fun _ _=>rfl⟩,fun _ _ _ h=>?_,fun _ _ _ h=>?_,fun _ _ h=>False.elim h,fun _ _=>rfl,fun _ h=>?_,fun _ _ _ _ _ _ _ h=>?_,wW.refl _ _,fun _ h=>h⟩
 ·cases h
 ·cases h
 ·cases h
 ·cases h
theorem zJZ(w:World):lM (0:Nat) (atW w):=⟨fun _ _=>⟨rfl,id⟩,fun _=>rfl,fun _ _ h=>False.elim h,trivial⟩
theorem V.none{G G':Gh}{w w':World}{v:Value}(h:V G w (.sl [] 0 .no) v):V G' w' (.sl [] 0 .no) v:=by
 simp only[V]at h ⊢
 obtain⟨cap,h1,⟨_,_,h2,h3,_⟩|⟨b,off,h2,_,_⟩⟩:=h
 ·exact⟨cap,h1,.inl ⟨trivial,trivial,h2,h3,trivial⟩⟩
 ·exact⟨cap,h1,.inr ⟨b,off,h2,by simp only[VC],trivial⟩⟩
theorem zHV{w:World}{u:Value}{p:Option Addr}{cap:Nat}(hu:u = .slice p 0 cap){G:Gh}(hV:V G w (.sl [] 0 .no) u) :
  Calls Tryz.prog 250 #[u] w fun e w'=>∃v,e = .returned v∧(wW (fun c=>c<w.heap.size) w w'∧∀G',V G' w' (.sl [] 0 .no) v):=by
 refine Z5 (M:=fun w1=>w1=w) (by subst hu;exact AnyM.slices_Sort_int_none Tryz.sortI p cap w) ?_
 rintro w1 rfl
 refine(zSO (atW w1) w1 #[u] (zJZ w1) (zNo w1) ?_).mono ?_
 ·simp only[VL];exact⟨V.none hV,trivial⟩
 ·rintro e w2 ⟨v,G',s',rfl,hE,hR,hv,_⟩
  refine⟨v,rfl,?_,fun G'=>V.none hv⟩
  have:=hR.below
  rw[hE.F,hE.w0]at this
  exact this
theorem VL.ints{G:Gh}{w:World}:∀l:List Int,VL G w (zD zM l) (l.map (Value.int .i64))
 | []=>by simp[zD,VL]
 |x::l=>by simp only[zD,List.flatMap_cons,List.map_cons];simp only[zM,List.cons_append,List.nil_append,VL,V];exact⟨trivial,VL.ints l⟩
theorem VL.ints_eq{G:Gh}{w:World}:∀(l:List Int) (us:List Value),VL G w (zD zM l) us->us=l.map (Value.int .i64)
 | [],[],_=>rfl
 | [],_::_,h=>by simp only[zD,List.flatMap_nil,VL]at h
 |x::l,[],h=>by simp only[zD,List.flatMap_cons,zM,List.cons_append,VL]at h
 |x::l,u::us,h=>by
  simp only[zD,List.flatMap_cons,zM,List.cons_append,List.nil_append,VL,V]at h
  rw[h.1,VL.ints_eq l us h.2];rfl
theorem Z6{G:Gh}{w:World}{s:LSt}{k:Nat}{l:List Int}{u:Value}(hR:yD G (yK (Emp 0) s) w)(ho:s.own.any (Nat.beq k)=true)(hsz:l.length<4611686018427387904)(hu:V G w (.sl (zD zM l) l.length (.st k 1)) u) :
  Calls Tryz.prog 250 #[u] w fun e w'=>∃(v:Value) (b:Nat) (S:Nat->Nat->Prop),e = .returned v∧¬G.F b∧(∀i,G.ρ i≠some b)∧wW (fun c=>c<w.heap.size∧c≠b) w w' ∧
   (∀c o,S c o->c=b∧∃x,w'.cell? ⟨c,o,none⟩=some x)∧∀G',(∀c o,S c o->G'.L c o)->V G' w' (.sl (zD zM (wO l)) (wO l).length .no) v:=by
 have hempty:l=[]->∀p cap,u = .slice p 0 cap->V G w (.sl [] 0 .no) u->Calls Tryz.prog 250 #[u] w fun e w'=>∃(v:Value) (b:Nat) (S:Nat->Nat->Prop),e = .returned v∧¬G.F b∧(∀i,G.ρ i≠some b)∧wW (fun c=>c<w.heap.size∧c≠b) w w' ∧
   (∀c o,S c o->c=b∧∃x,w'.cell? ⟨c,o,none⟩=some x)∧∀G',(∀c o,S c o->G'.L c o)->V G' w' (.sl (zD zM (wO l)) (wO l).length .no) v:=by
  rintro rfl p cap hp hV
  refine(zHV hp hV).mono ?_
  rintro e w' ⟨v,rfl,hK,hv⟩
  exact⟨v,w.heap.size,fun _ _=>False,rfl,fun h=>Nat.lt_irrefl _ (hR.base _ h),fun i hi=>Nat.lt_irrefl _ (hR.ρ_lt hi),hK.mono fun k hk=>hk.1,fun _ _ h=>h.elim,fun G' _=>hv G'⟩
 have hu0:=hu
 simp only[V]at hu
 obtain⟨cap,hcap,⟨he,hn,hc0,hu',_⟩|⟨b,off,rfl,hC,hq,hO⟩⟩:=hu
 ·have hl:l=[]:=List.length_eq_zero_iff.1 hn
  subst hl
  exact hempty rfl (kW u) 0 hu' (by simp only[V];exact⟨0,Nat.le_refl _,.inl ⟨trivial,trivial,rfl,hu',trivial⟩⟩)
 ·rcases hO with⟨hn,_⟩|⟨hm,hF,hτ⟩
  ·have hl:l=[]:=List.length_eq_zero_iff.1 hn
   subst hl
   exact hempty rfl _ cap rfl (by simp only[V];exact⟨cap,Nat.zero_le _,.inr ⟨b,off,rfl,by simp only[VC],trivial⟩⟩)
  ·obtain⟨b',f,t,q1,q2⟩:=hR.own k (by rw[uL];exact ho)
   rw[hτ]at q1
   cases q1
   rcases q2 with q2|⟨_,q3,_,vs,T,q5,q6⟩
   ·omega
   obtain⟨us,h1,h2⟩:=VC.cells _ _ _ hC
   have hus:=VL.ints_eq l us h1
   subst hus
   have hH:Holds (Value.int .i64) w b off l.toArray:=by
    intro j hj
    have hj':j<l.length:=by simpa using hj
    refine⟨?_,by simp[World.frozen?,q5]⟩
    rw[h2 j (by simpa using hj')]
    simp[hj']
   have hb:b<w.heap.size:=(Array.getElem?_eq_some_iff.1 q5).1
   refine(zHU hH hb hsz hcap).mono ?_
   rintro e w' ⟨rfl,hK,hcell⟩
   refine⟨_,b,fun c o=>c=b∧off≤o∧o<off+(wO l).length,rfl,hF,q3,hK,?_,fun G' hS=>?_⟩
   ·rintro c o ⟨rfl,h1,h2⟩
    exact⟨rfl,.int .i64 ((wO l)[o-off]'(by omega)),by have:=hcell (o-off) (by omega);rwa[show off+(o-off)=o by omega]at this⟩
   ·simp only[V]
    refine⟨cap,Nat.le_trans (N4 l) hcap,.inr ⟨b,off,rfl,VC.of_cells _ _ b off (VL.ints (wO l)) (fun i hi=>hS _ _ ⟨rfl,by omega,?_⟩) (fun i hi=>?_),trivial⟩⟩
    ·have:i<(wO l).length:=by simpa using hi
     omega
    ·rw[hcell i (by simpa using hi)];simp
end Go.Proofs.YthncchbcdpbgaaaGreat
namespace Go.Ab
open Go Go.RowKit Go.Sort
structure L3 where
 a:Value
 b:Value
 c:Value
 ha:a.oneCell'=true
 hb:b.oneCell'=true
 hc:c.oneCell'=true
instance:Inhabited L3:=⟨⟨.int .i64 0,.int .i64 0,.int .i64 0,rfl,rfl,rfl⟩⟩
def L3.vs(x:L3):List Value:=[x.a,x.b,x.c]
def c3(x:L3):List AV:=[.val x.a,.val x.b,.val x.c]
theorem zEa:wZ c3 3:=⟨fun _=>rfl,fun _=>⟨trivial,trivial,trivial,trivial⟩,fun x=>by simp[c3,AV.one,x.ha,x.hb,x.hc]⟩
def tT(l:List L3):List Value:=l.flatMap L3.vs
theorem zGk:∀l:List L3,zD c3 l=(tT l).map .val
 | []=>rfl
 |x::l=>by
  have:=zGk l
  simp only[zD,tT]at this
  simp only[zD,tT,List.flatMap_cons,List.map_append,this];rfl
theorem N5:∀l:List L3,(tT l).length=l.length*3
 | []=>rfl
 |x::l=>by
  have:=N5 l
  simp only[tT]at this
  simp only[tT,List.flatMap_cons,List.length_append,this,L3.vs,List.length_cons,List.length_nil];omega
theorem zBN:∀(l:List L3) (i c:Nat) (hi:i<l.length) (hc:c<3),(tT l)[i*3+c]? = some ((l[i].vs)[c]'(by simpa[L3.vs]using hc))
 |x::l,0,c,_,hc=>by
  simp only[tT,List.flatMap_cons,Nat.zero_mul,Nat.zero_add,List.getElem_cons_zero]
  rw[List.getElem?_append_left (by simpa[L3.vs]using hc),List.getElem?_eq_getElem]
 |x::l,i+1,c,hi,hc=>by
  have:=zBN l i c (by simpa using hi) hc
  simp only[tT]at this
  simp only[tT,List.flatMap_cons,List.getElem_cons_succ]
  rw[List.getElem?_append_right (by simp[L3.vs];omega)]
  rw[←this];congr 1;simp[L3.vs];omega
theorem zGj(l:List L3)(t:Nat)(ht:t<l.length*3):(tT l)[t]? = some (L3.vs l.toArray[t / 3]!)[t % 3]!:=by
 have h1:t / 3<l.length:=by omega
 have h2:t % 3<3:=Nat.mod_lt _ (by omega)
 have:=zBN l (t / 3) (t % 3) h1 h2
 rw[show t / 3*3+t % 3=t by omega]at this
 rw[this]
 have e:l.toArray[t / 3]! = l[t / 3]:=by simp[h1]
 rw[e]
 have h3:t % 3<l[t / 3].vs.length:=by simpa[L3.vs]using h2
 simp[h3]
theorem zEA{w:World}{b off:Nat}{l:List L3}(hcell:∀i (h:i<(tT l).length),w.cell? ⟨b,off+i,none⟩=some (tT l)[i])(hfr:∀o,w.frozen? ⟨b,o,none⟩=false):HoldsK L3.vs 3 w b off l.toArray:=by
 intro t ht
 have ht':t<l.length*3:=by simpa using ht
 refine⟨?_,hfr _⟩
 have hlt:t<(tT l).length:=by rw[N5];exact ht'
 rw[hcell t hlt,get_flatK _ _ _ _ (by simpa using ht')]
 have:=zGj l t ht'
 rw[List.getElem?_eq_getElem hlt]at this
 exact this
theorem zEB{w:World}{b off:Nat}{l:List L3}(h:HoldsK L3.vs 3 w b off l.toArray):∀i (h:i<(tT l).length),w.cell? ⟨b,off+i,none⟩=some (tT l)[i]:=by
 intro t ht
 have ht':t<l.length*3:=by rw[N5]at ht;exact ht
 rw[(h t (by simpa using ht')).1,get_flatK _ _ _ _ (by simpa using ht')]
 have:=zGj l t ht'
 rw[List.getElem?_eq_getElem ht]at this
 exact this.symm
end Go.Ab
namespace Go.Proofs.YthncchbcdpbgaaaGreat
open Go Go.Ab Go.RowKit Go.Sort Go.Proofs
theorem zKz{w:World}{b off cap:Nat}{l:List L3}(hH:HoldsK L3.vs 3 w b off l.toArray)(hsz:l.length≤9223372036854775807) :
  Calls Tryz.prog 167 #[.slice (some ⟨b,off,none⟩) l.length cap] w fun e w'=>e = .returned (.tuple #[])∧wW (fun c=>c<w.heap.size∧c≠b) w w'∧∀i (h:i<(tT l.reverse).length),w'.cell? ⟨b,off+i,none⟩=some (tT l.reverse)[i]:=by
 have h1:∀x:L3,∀v∈x.vs,v.oneCell'=true:=by
  intro x v hv
  simp only[L3.vs,List.mem_cons,List.not_mem_nil,or_false]at hv
  rcases hv with rfl|rfl|rfl
  ·exact x.ha
  ·exact x.hb
  ·exact x.hc
 have:=AnyQ.slices_Reverse Tryz.revT 3 Tryz.isAgg33 Tryz.sizeOf33 L3.vs (fun _=>rfl) h1 b off cap l.toArray w hH (by simpa using hsz)
 refine Calls.mono (this:Calls Tryz.prog 167 _ w _) ?_
 rintro e w' ⟨rfl,n,rfl⟩
 refine⟨rfl,wW.putRow _ w n b off _,?_⟩
 have:=holdsK_putRowK L3.vs 3 (Sort.ahead w n) b off l.toArray l.toArray.reverse hH (by simp)
 refine zEB ?_
 simpa using this
theorem V.st3{G:Gh}{w:World}{k n:Nat}{es:List AV}{u u':Value}(hn:n≠0)(h:V G w (.sl es n (.st k 3)) u)(h':V G w (.sl es n (.st k 3)) u')(_hes:es.length=n*3):u=u':=by
 simp only[V]at h h'
 obtain⟨cap,hc,⟨_,h0,_⟩|⟨b,off,rfl,_,_,ho⟩⟩:=h
 ·exact(hn h0).elim
 obtain⟨cap',hc',⟨_,h0,_⟩|⟨b',off',rfl,_,_,ho'⟩⟩:=h'
 ·exact(hn h0).elim
 rcases ho with ho|⟨_,_,ho⟩
 ·exact(hn ho.1).elim
 rcases ho' with ho'|⟨_,_,ho'⟩
 ·exact(hn ho'.1).elim
 rw[ho]at ho'
 simp only[Option.some.injEq,Prod.mk.injEq]at ho'
 obtain⟨rfl,e1,e2⟩:=ho'
 have:off=off':=by omega
 subst this
 have:cap=cap':=by omega
 subst this
 rfl
theorem zBO{G:Gh}{w:World}{s:LSt}{k:Nat}{l:List L3}{u:Value}(hR:yD G (yK (Emp 0) s) w)(ho:s.own.any (Nat.beq k)=true)(hsz:l.length≤9223372036854775807)(hu:V G w (.sl (zD c3 l) l.length (.st k 3)) u) :
  Calls Tryz.prog 167 #[u] w fun e w'=>∃(v:Value) (b:Nat) (S:Nat->Nat->Prop),e = .returned v∧¬G.F b∧(∀i,G.ρ i≠some b)∧wW (fun c=>c<w.heap.size∧c≠b) w w' ∧
   (∀c o,S c o->c=b∧∃x,w'.cell? ⟨c,o,none⟩=some x)∧v = .tuple #[]∧∀G',(∀c o,S c o->G'.L c o)->∀es,VL G' w' es (tT l.reverse)->∀u',V G w (.sl (zD c3 l) l.length (.st k 3)) u'->V G' w' (.sl es l.length .no) u':=by
 by_cases hl:l=[]
 ·subst hl
  have hp:∃p cap,u = .slice p 0 cap:=by
   simp only[V]at hu
   obtain⟨cap,_,⟨_,_,_,h,_⟩|⟨b,off,h,_⟩⟩:=hu
   ·exact⟨_,_,h⟩
   ·exact⟨_,_,h⟩
  obtain⟨p,cap,rfl⟩:=hp
  refine Calls.mono (AnyQ.slices_Reverse_empty Tryz.revT p cap w:Calls Tryz.prog 167 _ w _) ?_
  rintro e w' ⟨rfl,rfl⟩
  refine⟨_,w'.heap.size,fun _ _=>False,rfl,fun h=>Nat.lt_irrefl _ (hR.base _ h),fun i hi=>Nat.lt_irrefl _ (hR.ρ_lt hi),wW.refl _ _,fun _ _ h=>h.elim,rfl,fun G' _ es hes u' hu'=>?_⟩
  have hes':es=[]:=by
   have:=VL.length _ _ hes
   exact List.length_eq_zero_iff.1 this.symm
  subst hes'
  refine V.none (G:=G) (w:=w') ?_
  simp only[V]at hu' ⊢
  obtain⟨cap',h1,⟨_,_,h2,h3,_⟩|⟨b,off,h2,_,_⟩⟩:=hu'
  ·exact⟨cap',h1,.inl ⟨trivial,trivial,h2,h3,trivial⟩⟩
  ·exact⟨cap',h1,.inr ⟨b,off,h2,by simp only[VC],trivial⟩⟩
 ·have hn:l.length≠0:=fun h=>hl (List.length_eq_zero_iff.1 h)
  have hlen:(zD c3 l).length=l.length*3:=vJ zEa.len l
  have huniq:∀u',V G w (.sl (zD c3 l) l.length (.st k 3)) u'->u=u':=fun u' h=>V.st3 hn hu h hlen
  simp only[V]at hu
  obtain⟨cap,hcap,⟨_,h0,_⟩|⟨b,off,rfl,hC,hq,hO⟩⟩:=hu
  ·exact(hn h0).elim
  rcases hO with⟨h0,_⟩|⟨hm,hF,hτ⟩
  ·exact(hn h0).elim
  obtain⟨b',f,t,q1,q2⟩:=hR.own k (by rw[uL];exact ho)
  rw[hτ]at q1
  cases q1
  rcases q2 with q2|⟨_,q3,_,vs,T,q5,q6⟩
  ·rw[hlen]at q2
   have:=Nat.mul_le_mul_right 3 hcap
   omega
  obtain⟨us,h1,h2⟩:=VC.cells _ _ _ hC
  rw[zGk]at h1
  have hus:=VL.litEq _ us h1
  subst hus
  have hH:HoldsK L3.vs 3 w b off l.toArray:=zEA h2 (fun o=>by simp[World.frozen?,q5])
  refine(zKz (cap:=cap) hH hsz).mono ?_
  rintro e w' ⟨rfl,hK,hcell⟩
  refine⟨_,b,fun c o=>c=b∧off≤o∧o<off+(tT l.reverse).length,rfl,hF,q3,hK,?_,rfl,fun G' hS es hes u' hu'=>?_⟩
  ·rintro c o ⟨rfl,h1,h2⟩
   exact⟨rfl,(tT l.reverse)[o-off]'(by omega),by have:=hcell (o-off) (by omega);rwa[show off+(o-off)=o by omega]at this⟩
  ·rw[←huniq u' hu']
   simp only[V]
   exact⟨cap,hcap,.inr ⟨b,off,rfl,VC.of_cells es _ b off hes (fun i hi=>hS _ _ ⟨rfl,by omega,by omega⟩) hcell,trivial⟩⟩
end Go.Proofs.YthncchbcdpbgaaaGreat
namespace Go.Ab
open Go Go.RowKit
def nN:List (ByteArray×Int)->Nat->List MapEntry
 | [],_=>[]
 |p::m,c=>{ key:=.string p.1,val:=.int .i64 p.2,born:=c } :: nN m (c+1)
def N6(m:List (ByteArray×Int)):Blk:=.obj (.map ⟨nN m 0⟩ m.length)
def N7:List (ByteArray×Int)->ByteArray->Int
 | [],_=>0
 |p::m,k=>if (k==p.1)=true then p.2 else N7 m k
def E7:List (ByteArray×Int)->ByteArray->Int->List (ByteArray×Int)
 | [],k,v=>[(k,v)]
 |p::m,k,v=>if (k==p.1)=true then(k,v)::m else p::E7 m k v
def W9:List (ByteArray×Int)->ByteArray->Nat->Option (Nat×Value)
 | [],_,_=>none
 |p::m,k,i=>if (k==p.1)=true then some (i,.int .i64 p.2)else W9 m k (i+1)
theorem lU(k:ByteArray):∀(m:List (ByteArray×Int)) (c i:Nat),Instr.findNow .string (.string k) (nN m c) i=some (W9 m k i)
 | [],_,_=>rfl
 |p::m,c,i=>by
  simp only[nN,Instr.findNow,Instr.sameNow,W9]
  cases hb:(k==p.1)with
  |true=>rfl
  |false=>simp only[Bool.false_eq_true,if_false];exact lU k m (c+1) (i+1)
theorem zBP(k:ByteArray):∀(m:List (ByteArray×Int)) (i:Nat),zJB (W9 m k i) (.int .i64 0)=ai (N7 m k)
 | [],_=>rfl
 |p::m,i=>by
  simp only[W9,N7]
  cases hb:(k==p.1)with
  |true=>rfl
  |false=>simp only[Bool.false_eq_true,if_false];exact zBP k m (i+1)
theorem zBQ(k:ByteArray)(v:Int):∀(m:List (ByteArray×Int)) (c i:Nat),
    (match W9 m k i with
      |some (j,_)=>i≤j∧(nN m c).modify (j-i) (fun e=>{ e with key:=.string k,val:=.int .i64 v })=nN (E7 m k v) c∧(E7 m k v).length=m.length
      |none=>nN m c++[{ key:=.string k,val:=.int .i64 v,born:=c+m.length }]=nN (E7 m k v) c∧(E7 m k v).length=m.length+1)
  | [],c,i=>by simp[W9,E7,nN]
  |p::m,c,i=>by
    simp only[W9,E7]
    cases hb:(k==p.1)with
    |true=>simp[nN]
    |false=>
      simp only[Bool.false_eq_true,if_false]
      have ih:=zBQ k v m (c+1) (i+1)
      cases hm:W9 m k (i+1)with
      |none=>
        rw[hm]at ih
        simp only at ih ⊢
        refine⟨?_,by simp[ih.2]⟩
        simp only[nN,List.cons_append,List.length_cons]
        rw[←ih.1,show c+(m.length+1)=c+1+m.length by omega]
      |some q=>
        obtain⟨j,u⟩:=q
        rw[hm]at ih
        simp only at ih ⊢
        refine⟨by omega,?_,by simp[ih.2.2]⟩
        simp only[nN]
        rw[show j-i=(j-(i+1))+1 by omega,List.modify_succ_cons,ih.2.1]
variable {P:Program} {t kt et:TypeId} {ie:TypeInfo}
theorem zSP(ht:P.underlying t=some (.map kt et))(hk:P.underlying kt=some .string)(he:P.info? et=some ie)(hz:ie.zero=some (.int .i64 0))(m:List (ByteArray×Int))(k:ByteArray) :
  Ob.ok P (.lk t (N6 m) (at' k) false (ai (N7 m k))):=by
 intro ev i s hl
 unfold lI
 simp only[ht,at',hk,he,N6]at hl ⊢
 simp only[hl,hz,lU,tS,cond_true,Bool.false_eq_true,if_false,zBP]
theorem zSQ(ht:P.underlying t=some (.map kt et))(hk:P.underlying kt=some .string)(m:List (ByteArray×Int))(k:ByteArray)(v:Int) :
  Ob.ok P (.mu t (N6 m) (at' k) (ai v) (N6 (E7 m k v))):=by
 intro ev i s hl
 unfold tZ
 simp only[ht,at',ai,hk,N6]at hl ⊢
 simp only[hl,lU,tS,cond_true]
 have h:=zBQ k v m 0 0
 cases hm:W9 m k 0 with
 |none=>
  rw[hm]at h
  simp only[Nat.zero_add]at h ⊢
  rw[h.2,←h.1]
  simp
 |some q=>
  obtain⟨j,u⟩:=q
  rw[hm]at h
  simp only[Nat.sub_zero]at h ⊢
  have e:(⟨nN m 0⟩:Array MapEntry).modify j (fun e=>{ e with key:=.string k,val:=.int .i64 v })=⟨nN (E7 m k v) 0⟩:=by
   apply Array.ext'
   rw[Array.toList_modify]
   exact h.2.1
  rw[h.2.2,e]
def B8(s:ByteArray)(i:Int):Option Int:=if 0≤i then(match s[i.toNat]? with|some b=>some (b.toNat:Int)|none=>none)else none
theorem zKy{k:IntKind}(ht:P.underlying t=some .string){s:ByteArray}{i x:Int}(h:B8 s i=some x):nX P t (at' s) (.val (.int k i))=some (.val (.int .u8 x)):=by
 unfold B8 at h
 unfold nX
 simp only[ht,at']
 split at h
 ·rename_i h0
  rw[if_pos h0]
  split at h
  ·rename_i b hb
   cases h
   rw[hb]
  ·cases h
 ·cases h
theorem zBR:∀l:List U8,eG (zD u8C l)=some l
 | []=>rfl
 |x::l=>by
  have:=zBR l
  unfold zD at this ⊢
  rw[List.flatMap_cons]
  show (eG (l.flatMap u8C)).map (x :: ·)=_
  rw[this];rfl
theorem zKx{d e:TypeId}(hs:P.underlying t=some (.slice e))(hd:P.underlying d=some .string)(he:P.underlying e=some (.int .u8))(l:List U8){o:Own}:mI P t d (.sl (zD u8C l) l.length o)=some (at' (sZ l)):=by
 unfold mI
 simp only[hs,hd,he,zBR]
 rfl
end Go.Ab
namespace Go.Ab
open Go Go.RowKit
structure Sub (G G':Gh) (p:Nat->Prop):Prop where
 F:G'.F=G.F
 ρ:∀i b,p i->G.ρ i=some b->G'.ρ i=some b
 τ:∀k q,G.τ k=some q->G'.τ k=some q
 L:∀b o,G.L b o->G'.L b o
 N:∀i,p i->G.N i->G'.N i
mutual
theorem V.less{G G':Gh}{w:World}{p:Nat->Prop}(h:Sub G G' p):∀(a:AV) (u:Value),a.fine p->V G w a u->V G' w a u
 | .val v,u,_,hv=>by simpa only[V]using hv
 | .agg cs,u,hi,hv=>by
  simp only[V,AV.fine]at hi hv ⊢
  obtain⟨vs,rfl,hl⟩:=hv
  exact⟨vs,rfl,VL.less h cs vs hi hl⟩
 | .tup cs,u,hi,hv=>by
  simp only[V,AV.fine]at hi hv ⊢
  obtain⟨vs,rfl,hl⟩:=hv
  exact⟨vs,rfl,VL.less h cs vs hi hl⟩
 | .sl es n o,u,hi,hv=>by
  simp only[V,AV.fine]at hi hv ⊢
  obtain⟨cap,hc,hh⟩:=hv
  refine⟨cap,hc,?_⟩
  rcases hh with⟨rfl,h2,h3,h4,h5⟩|⟨b,off,hu,hcells,ho⟩
  ·exact .inl ⟨rfl,h2,h3,h4,h5.mono h.τ⟩
  ·exact .inr ⟨b,off,hu,VC.data h.L es b off hi hcells,ho.mono h.F h.τ⟩
 | .ip es,u,hi,hv=>by
  simp only[V,AV.fine]at hi hv ⊢
  obtain⟨b,off,hu,hcells⟩:=hv
  exact⟨b,off,hu,VC.data h.L es b off hi hcells⟩
 | .mp i off,u,hi,hv=>by
  simp only[V,AV.fine]at hi hv ⊢
  obtain⟨b,hb,hu⟩:=hv
  exact⟨b,h.ρ _ _ hi hb,hu⟩
 | .ms i off n c sz,u,hi,hv=>by
  simp only[V,AV.fine]at hi hv ⊢
  rcases hv with⟨b,cap,hb,hu⟩|⟨hn,hN,hu⟩
  ·exact .inl ⟨b,cap,h.ρ _ _ hi hb,hu⟩
  ·exact .inr ⟨hn,h.N _ hi hN,hu⟩
 | .obj i,u,hi,hv=>by
  simp only[V,AV.fine]at hi hv ⊢
  obtain⟨b,hb,hu⟩:=hv
  exact⟨b,h.ρ _ _ hi hb,hu⟩
 | .clo g fs cs,u,hi,hv=>by
  simp only[V,AV.fine]at hi hv ⊢
  obtain⟨l,r',hu,h1,h2⟩:=hv
  exact⟨l,r',hu,VL.less h fs l hi.1 h1,VL.less h cs r' hi.2 h2⟩
theorem VL.less{G G':Gh}{w:World}{p:Nat->Prop}(h:Sub G G' p):∀(as0:List AV) (us:List Value),AV.fineL p as0->VL G w as0 us->VL G' w as0 us
 | [],[],_,_=>by simp only[VL]
 |a::as0,u::us,hi,hv=>by
  simp only[VL,AV.fineL]at hi hv ⊢
  exact⟨V.less h a u hi.1 hv.1,VL.less h as0 us hi.2 hv.2⟩
 | [],_::_,_,hv=>by simp only[VL]at hv
 |_::_,[],_,hv=>by simp only[VL]at hv
end
mutual
def AV.fz(m:Nat)(cs:List AV):AV->AV
 | .val v=>.val v
 | .agg l=>.agg (AV.fzL m cs l)
 | .tup l=>.tup (AV.fzL m cs l)
 | .sl es n o=>.sl es n o
 | .ip es=>.ip es
 | .mp i off=>.mp i off
 | .ms i off n c sz=>bif Nat.beq i m then .sl (cs.drop off) n .no else .ms i off n c sz
 | .obj i=>.obj i
 | .clo g a b=>.clo g a b
def AV.fzL(m:Nat)(cs:List AV):List AV->List AV
 | []=>[]
 |a::l=>AV.fz m cs a::AV.fzL m cs l
end
mutual
def AV.fzOk(m:Nat):AV->Prop
 | .val _=>True
 | .agg l=>AV.fzOkL m l
 | .tup l=>AV.fzOkL m l
 | .sl es _ _=>AV.DataL es
 | .ip es=>AV.DataL es
 | .mp i _=>i<m
 | .ms i off _ _ _=>(i=m∧off=0)∨i<m
 | .obj i=>i<m
 | .clo _ a b=>AV.fineL (fun i=>i<m) a∧AV.fineL (fun i=>i<m) b
def AV.fzOkL(m:Nat):List AV->Prop
 | []=>True
 |a::l=>AV.fzOk m a∧AV.fzOkL m l
end
theorem N8:∀(l:List AV) (n:Nat),AV.DataL l->AV.DataL (l.drop n)
 |l,0,h=>by simpa using h
 | [],_+1,_=>trivial
 |_::l,n+1,h=>by simpa using N8 l n h.2
mutual
theorem AV.fz_fine{m:Nat}{cs:List AV}(hc:AV.DataL cs):∀a:AV,a.fzOk m->(a.fz m cs).fine (fun i=>i<m)
 | .val _,_=>trivial
 | .agg l,h=>AV.fzL_fine hc l h
 | .tup l,h=>AV.fzL_fine hc l h
 | .sl _ _ _,h=>h
 | .ip _,h=>h
 | .mp _ _,h=>h
 | .ms i off n c sz,h=>by
  simp only[AV.fz]
  cases hb:Nat.beq i m with
  |true=>exact N8 _ _ hc
  |false=>
   rcases h with⟨rfl,_⟩|h
   ·simp at hb
   ·exact h
 | .obj _,h=>h
 | .clo _ _ _,h=>h
theorem AV.fzL_fine{m:Nat}{cs:List AV}(hc:AV.DataL cs):∀l:List AV,AV.fzOkL m l->AV.fineL (fun i=>i<m) (AV.fzL m cs l)
 | [],_=>trivial
 |a::l,h=>⟨AV.fz_fine hc a h.1,AV.fzL_fine hc l h.2⟩
end
mutual
theorem V.fz{G G':Gh}{w:World}{m:Nat}{cs:List AV}(h:Sub G G' (fun i=>i<m))(hm:∀b,G.ρ m=some b->VC G' w cs b 0)(hc:G.N m->cs=[]):∀(a:AV) (u:Value),a.fzOk m->V G w a u->V G' w (a.fz m cs) u
 | .val v,u,_,hv=>by simpa only[AV.fz,V]using hv
 | .agg l,u,hi,hv=>by
  simp only[V,AV.fzOk,AV.fz]at hi hv ⊢
  obtain⟨vs,rfl,hl⟩:=hv
  exact⟨vs,rfl,VL.fz h hm hc l vs hi hl⟩
 | .tup l,u,hi,hv=>by
  simp only[V,AV.fzOk,AV.fz]at hi hv ⊢
  obtain⟨vs,rfl,hl⟩:=hv
  exact⟨vs,rfl,VL.fz h hm hc l vs hi hl⟩
 | .sl es n o,u,hi,hv=>V.less h (.sl es n o) u hi hv
 | .ip es,u,hi,hv=>V.less h (.ip es) u hi hv
 | .mp i off,u,hi,hv=>V.less h (.mp i off) u hi hv
 | .ms i off n c sz,u,hi,hv=>by
  simp only[AV.fz]
  cases hb:Nat.beq i m with
  |false=>
   rcases hi with⟨rfl,_⟩|hi
   ·simp at hb
   ·exact V.less h (.ms i off n c sz) u hi hv
  |true=>
   have:=Nat.eq_of_beq_eq_true hb
   subst this
   simp only[V,cond_true]at hv ⊢
   rcases hi with⟨_,e0⟩|hi
   ·subst e0
    rcases hv with⟨b,cap,hb',hn,o,rfl,hro⟩|⟨⟨e1,_⟩,hN,p,rfl⟩
    ·rcases hro with⟨eo,_⟩|⟨_,h0⟩
     ·subst eo
      exact⟨cap,Nat.le_trans hn.1 hn.2,.inr ⟨b,_,rfl,by simpa using hm b hb',trivial⟩⟩
     ·exact absurd h0 (Nat.lt_irrefl _)
    ·rw[hc hN]
     subst e1
     exact⟨0,Nat.le_refl 0,.inl ⟨rfl,(by first|rfl|trivial),(by first|rfl|trivial),rfl,trivial⟩⟩
   ·exact absurd hi (Nat.lt_irrefl _)
 | .obj i,u,hi,hv=>V.less h (.obj i) u hi hv
 | .clo g a b,u,hi,hv=>V.less h (.clo g a b) u hi hv
theorem VL.fz{G G':Gh}{w:World}{m:Nat}{cs:List AV}(h:Sub G G' (fun i=>i<m))(hm:∀b,G.ρ m=some b->VC G' w cs b 0)(hc:G.N m->cs=[]):∀(as0:List AV) (us:List Value),AV.fzOkL m as0->VL G w as0 us->VL G' w (AV.fzL m cs as0) us
 | [],[],_,_=>by simp only[AV.fzL,VL]
 |a::as0,u::us,hi,hv=>by
  simp only[VL,AV.fzOkL,AV.fzL]at hi hv ⊢
  exact⟨V.fz h hm hc a u hi.1 hv.1,VL.fz h hm hc as0 us hi.2 hv.2⟩
 | [],_::_,_,hv=>by simp only[VL]at hv
 |_::_,[],_,hv=>by simp only[VL]at hv
end
def zBS(m:Nat):List (Nat×Blk)->List (Nat×Blk)
 | []=>[]
 |p::l=>bif Nat.blt p.1 m then p::zBS m l else zBS m l
theorem iX{m:Nat}:∀(l:List (Nat×Blk)) (i:Nat),look (zBS m l) i=if i<m then look l i else none
 | [],i=>by simp[zBS,look]
 |p::l,i=>by
  simp only[zBS]
  cases hb:Nat.blt p.1 m with
  |true=>
   have hb':p.1<m:=Nat.le_of_ble_eq_true hb
   simp only[cond_true,look,iX l i]
   cases he:Nat.beq i p.1 with
   |true=>have:=Nat.eq_of_beq_eq_true he;simp only[cond_true];rw[if_pos (by omega)]
   |false=>simp only[cond_false]
  |false=>
   have hb':¬p.1<m:=by intro h;rw[Nat.blt,Nat.ble_eq_true_of_le h]at hb;cases hb
   simp only[cond_false,look,iX l i]
   cases he:Nat.beq i p.1 with
   |true=>have:=Nat.eq_of_beq_eq_true he;rw[if_neg (by omega),if_neg (by omega)]
   |false=>simp only[cond_false]
def Blk.alive:Blk->Bool
 | .dead=>false
 |_=>true
theorem vV.freeze{P:Program}{f:FuncId}{H0 H1:List Blk}{args cs:List AV}{res:AV}{nst:Nat}(h:vV P f H0 args res (H1++[.row cs]) nst)(hle:H0.length≤H1.length)(hH1:∀X∈H1,X.fine (fun i=>i<H1.length))(hcs:AV.DataL cs)(hr:res.fzOk H1.length)(hnd:H1.all Blk.alive=true) :
  vV P f H0 args (res.fz H1.length cs) H1 nst:=by
 intro G0 W cargs hB hR hv
 refine(h G0 W cargs hB hR hv).mono ?_
 rintro e W' ⟨u,G',s',rfl,hE,hR',hu,hb,ho⟩
 have hm:look s'.H H1.length=some (.row cs):=hb H1.length _ (by simp)
 have hm':(yK (Emp 0) s').H H1.length=some (.row cs):=by rw[yX];exact hm
 have real:∀b,G'.ρ H1.length=some b->¬G'.F b∧∃us:List Value,us.length=cs.length∧VL G' W' cs us∧∀i (hi:i<us.length),W'.cell? ⟨b,0+i,none⟩=some us[i]:=by
  intro b hρ
  obtain⟨hF,vs,T,hh,us,rest,hus,hvl⟩:=hR'.blk H1.length b _ hρ hm'
  refine⟨hF,us,VL.length _ _ hvl,hvl,fun i hi=>?_⟩
  have:vs[i]? = some us[i]:=by
   have h1:vs.toList[i]? = some us[i]:=by rw[hus,List.getElem?_append_left hi,List.getElem?_eq_getElem hi]
   simpa using h1
  rw[Nat.zero_add]
  simp[World.cell?,hh,this]
 have hNn:G'.N H1.length->cs=[]:=fun e=>Blk.void_row (hR'.Nvoid e hm')
 let G'':Gh:={ G' with ρ:=fun i=>if i<H1.length then G'.ρ i else none,L:=fun c o=>G'.L c o∨(G'.ρ H1.length=some c∧o<cs.length),N:=fun i=>i<H1.length∧G'.N i }
 have hS:Sub G' G'' (fun i=>i<H1.length):=⟨rfl,fun i b hi e=>by show (if i<H1.length then G'.ρ i else none)=_;rw[if_pos hi];exact e,fun _ _ e=>e,fun _ _ e=>.inl e,fun _ hi e=>⟨hi,e⟩⟩
 have hC:∀b,G'.ρ H1.length=some b->VC G'' W' cs b 0:=fun b hρ=>by
  obtain⟨_,us,hlen,hvl,hcell⟩:=real b hρ
  exact VC.of_cells cs us b 0 (VL.data hS.L cs us hcs hvl) (fun i hi=>.inr ⟨hρ,by omega⟩) hcell
 have hσ:∀i,(yK (Emp 0) { s' with H:=zBS H1.length s'.H }).H i=if i<H1.length then look s'.H i else none:=fun i=>by rw[yX];exact iX _ _
 have hσ':∀i,(yK (Emp 0) s').H i=look s'.H i:=fun i=>yX _ _
 refine⟨u,G'',{ s' with H:=zBS H1.length s'.H },rfl,⟨fun i c hc=>?_,hE.τ,fun c o e=>.inl (hE.L c o e),hE.cell,hE.w0,hE.F,fun c o e=>?_,hE.room,fun i e=>?_⟩,⟨fun i=>?_,⟨H1.length,fun i hi=>?_⟩,fun i j c hi hj=>?_,fun i c X hi hX=>?_,fun c o hL=>?_,hR'.τns,fun k hk=>?_,hR'.ownd,hR'.below,hR'.base⟩,V.fz hS hC hNn _ _ hr hu,fun i X hX=>?_,ho⟩
 ·have hi:i<H0.length:=Nat.lt_of_not_le fun hge=>by rw[(hB.ρ i hge).1]at hc;cases hc
  show (if i<H1.length then G'.ρ i else none)=_
  rw[if_pos (by omega)];exact hE.ρ i c hc
 ·rcases e with e|⟨e,_⟩
  ·exact hE.newL c o e
  ·exact .inr (by rw[←hE.F];exact(real c e).1)
 ·have hi:i<H0.length:=Nat.lt_of_not_le fun hge=>(hB.ρ i hge).2 e
  exact⟨by omega,hE.N i e⟩
 ·rw[hσ]
  show mH (if i<H1.length then G'.ρ i else none) (i<H1.length∧G'.N i) _
  have hd:=hR'.dom i
  rw[hσ']at hd
  split
  ·rename_i hi
   exact⟨fun q=>(hd.1 q).imp (fun r=>⟨hi,r⟩) id,fun q=>⟨(hd.2.1 q).1,fun r=>(hd.2.1 q).2 r.2⟩,fun r=>hd.2.2 r.2⟩
  ·rename_i hi
   exact⟨fun _=>.inr rfl,fun _=>⟨rfl,fun r=>hi r.1⟩,fun r=>absurd r.1 hi⟩
 ·rw[hσ,if_neg (by omega)]
 ·have hi':(if i<H1.length then G'.ρ i else none)=some c:=hi
  have hj':(if j<H1.length then G'.ρ j else none)=some c:=hj
  split at hi'
  ·split at hj'
   ·rename_i h1 h2
    rw[hσ,hσ,if_pos h1,if_pos h2,←hσ',←hσ']
    exact hR'.inj i j c hi' hj'
   ·cases hj'
  ·cases hi'
 ·have hi':(if i<H1.length then G'.ρ i else none)=some c:=hi
  split at hi'
  ·rename_i hlt
   rw[hσ,if_pos hlt]at hX
   obtain⟨q1,q2⟩:=hR'.blk i c X hi' (by rw[hσ'];exact hX)
   refine⟨q1,?_⟩
   have hget:(H1++[.row cs])[i]? = some H1[i]:=by rw[List.getElem?_append_left hlt,List.getElem?_eq_getElem hlt]
   have:=hb i _ hget
   rw[this]at hX;cases hX
   have hf:=hH1 _ (List.getElem_mem hlt)
   cases hY:H1[i]with
   |cells ds=>
    rw[hY]at q2 hf
    obtain⟨vs',T',q3,q4⟩:=q2
    exact⟨vs',T',q3,q4.imp fun us=>VL.less hS _ us hf⟩
   |obj o=>rw[hY]at q2;exact q2
   |row ds=>
    rw[hY]at q2 hf
    obtain⟨vs',T',q3,q4⟩:=q2
    exact⟨vs',T',q3,q4.imp fun us=>VL.data hS.L _ us hf⟩
   |dead=>rw[hY]at q2;exact q2
  ·cases hi'
 ·rcases hL with hL|⟨hρ,hlt⟩
  ·obtain⟨q1,q2⟩:=hR'.live c o hL
   refine⟨q1,fun i hi=>?_⟩
   have hi':(if i<H1.length then G'.ρ i else none)=some c:=hi
   split at hi'
   ·exact q2 i hi'
   ·cases hi'
  ·obtain⟨_,us,hlen,hvl,hcell⟩:=real c hρ
   refine⟨⟨us[o]'(by omega),?_⟩,fun i hi=>?_⟩
   ·have:=hcell o (by omega)
    rwa[Nat.zero_add]at this
   ·have hi':(if i<H1.length then G'.ρ i else none)=some c:=hi
    split at hi'
    ·rename_i hlt'
     have hi2:look s'.H i=some H1[i]:=hb i _ (by rw[List.getElem?_append_left hlt',List.getElem?_eq_getElem hlt'])
     rcases hR'.inj i H1.length c hi' hρ with this|this|this
     ·omega
     ·rw[hσ',hi2]at this
      have h3:=List.all_eq_true.1 hnd _ (List.getElem_mem hlt')
      rw[Option.some.inj this]at h3
      cases h3
     ·rw[hσ',hm]at this;cases this
    ·cases hi'
 ·obtain⟨c,f1,t,q1,q2|⟨q2,q3,q4,q5⟩⟩:=hR'.own k hk
  ·exact⟨c,f1,t,q1,.inl q2⟩
  ·refine⟨c,f1,t,q1,.inr ⟨q2,fun i hi=>?_,fun o h1 h2 hL=>?_,q5⟩⟩
   ·have hi':(if i<H1.length then G'.ρ i else none)=some c:=hi
    split at hi'
    ·exact q3 i hi'
    ·cases hi'
   ·rcases hL with hL|⟨hρ,_⟩
    ·exact q4 o h1 h2 hL
    ·exact q3 _ hρ
 ·have hlt:=(List.getElem?_eq_some_iff.1 hX).1
  show look (zBS H1.length s'.H) i=some X
  rw[iX,if_pos hlt]
  exact hb i X (by rw[List.getElem?_append_left hlt];exact hX)
theorem CT.freeze{P:Program}{f:FuncId}{H0 H1:List Blk}{args cs:List AV}{res res':AV}{nst:Nat}(h:CT P f H0 args res (H1++[.row cs]) nst)(hle:H0.length≤H1.length)(hH1:∀X∈H1,X.fine (fun i=>i<H1.length))(hcs:AV.DataL cs)(hr:res.fzOk H1.length)(hnd:H1.all Blk.alive=true)(e:res.fz H1.length cs=res') :
  CT P f H0 args res' H1 nst:=by
 subst e
 exact⟨h.tri.freeze hle hH1 hcs hr hnd,h.args,h.H0,AV.fz_fine hcs _ hr,hH1⟩
theorem zHW{G0 G':Gh}{W W':World}{s':LSt}{u:Value}(sz:Nat)(hB:lM (0:Nat) G0)(hE:Ext G0 W G' W')(hR':yD G' (yK (Emp 0) s') W')(hu:∃cap b o,(cap=0)∧(u = .slice (kW u) 0 0∨u = .slice (some ⟨b,o,none⟩) 0 cap)) :
  ∃u' G'' s'',Ending.returned u = .returned u'∧Ext G0 W G'' W'∧yD G'' (yK (Emp 0) s'') W'∧V G'' W' (.sl [] 0 (.st 0 sz)) u'∧(∀i X,([]:List Blk)[i]? = some X->look s''.H i=some X)∧∀k,k<1->s''.own.any (Nat.beq k)=true:=by
 let G'':Gh:={ G' with ρ:=fun _=>none,τ:=fun k=>if k=0 then some (0,1,0)else none,N:=fun _=>False }
 refine⟨u,G'',{ s' with H:=[],own:=[0],ns:=1 },rfl,⟨fun i c hc=>?_,fun k r hk=>?_,hE.L,hE.cell,hE.w0,hE.F,hE.newL,fun i c m hc=>?_,fun i e=>absurd e (hB.ρ i (Nat.zero_le _)).2⟩,⟨fun i=>?_,⟨0,fun i _=>?_⟩,fun i j c hi=>?_,fun i c X hi=>?_,fun c o hL=>?_,fun k hk=>?_,fun k hk=>?_,fun k k' _ _ _ _ _ hk hk'=>?_,hR'.below,hR'.base⟩,?_,fun i X hX=>?_,fun k hk=>?_⟩
 ·rw[(hB.ρ i (Nat.zero_le _)).1]at hc;cases hc
 ·rw[hB.τ k]at hk;cases hk
 ·rw[(hB.ρ i (Nat.zero_le _)).1]at hc;cases hc
 ·rw[yX];exact⟨fun _=>.inr rfl,fun _=>⟨rfl,id⟩,fun e=>e.elim⟩
 ·rw[yX];rfl
 ·cases hi
 ·cases hi
 ·exact⟨(hR'.live c o hL).1,fun i hi=>by cases hi⟩
 ·have hk1:1≤k:=hk
  show (if k=0 then some (0,1,0)else none)=none
  rw[if_neg (by omega)]
 ·rw[uL]at hk
  have e:k=0:=by simpa using hk
  subst e
  exact⟨0,1,0,rfl,.inl (by decide)⟩
 ·rw[uL]at hk hk'
  have e:k=0:=by simpa using hk
  have e':k'=0:=by simpa using hk'
  intros;omega
 ·obtain⟨cap,b,o,rfl,hu|rfl⟩:=hu
  ·simp only[V]
   exact⟨0,Nat.le_refl 0,.inl ⟨(by trivial),(by trivial),(by trivial),hu,_,rfl⟩⟩
  ·simp only[V]
   exact⟨0,Nat.le_refl 0,.inl ⟨(by trivial),(by trivial),(by trivial),(by first|rfl|trivial),_,rfl⟩⟩
 ·cases hX
 ·have:k=0:=by omega
  subst this;rfl
theorem vV.freezeZ{P:Program}{f:FuncId}{args cs:List AV}{n c sz:Nat}(h:vV P f [] args (.ms 0 0 n c sz) [.row cs] 0)(hn0:n=0) :
  vV P f [] args (.sl [] 0 (.st 0 sz)) [] 1:=by
 intro G0 W cargs hB hR hv
 refine(h G0 W cargs hB hR hv).mono ?_
 rintro e W' ⟨u,G',s',rfl,hE,hR',hu,hb,-⟩
 have hm:look s'.H 0=some (.row cs):=hb 0 _ (by simp)
 have hm':(yK (Emp 0) s').H 0=some (.row cs):=by rw[yX];exact hm
 simp only[V]at hu
 rcases hu with⟨b,cap,hρ,hn,o,rfl,hro⟩|⟨⟨e0,_⟩,hN,p,rfl⟩
 rotate_left
 ·have hcs0:=Blk.void_row (hR'.Nvoid hN hm')
  subst e0
  try subst hcs0
  exact zHW sz hB hE hR' ⟨0,0,0,rfl,.inl rfl⟩
 obtain⟨hF,vs,T,hh,us,rest,hus,hvl⟩:=hR'.blk 0 b _ hρ hm'
 have hlen:=VL.length _ _ hvl
 rcases hro with⟨rfl,vs2,T2,hh2,hroom⟩|⟨_,h0⟩
 rotate_left
 ·exact absurd h0 (Nat.lt_irrefl _)
 rw[hh]at hh2;cases hh2
 let G'':Gh:={ G' with ρ:=fun _=>none,τ:=fun k=>if k=0 then some (b,0+0,0+cap*sz)else none,N:=fun _=>False }
 refine⟨_,G'',{ s' with H:=[],own:=[0],ns:=1 },rfl,⟨fun i c hc=>?_,fun k r hk=>?_,hE.L,hE.cell,hE.w0,hE.F,hE.newL,fun i c m hc=>?_,fun i e=>absurd e (hB.ρ i (Nat.zero_le _)).2⟩,⟨fun i=>?_,⟨0,fun i _=>?_⟩,fun i j c hi=>?_,fun i c X hi=>?_,fun c o hL=>?_,fun k hk=>?_,fun k hk=>?_,fun k k' _ _ _ _ _ hk hk'=>?_,hR'.below,hR'.base⟩,?_,fun i X hX=>?_,fun k hk=>?_⟩
 ·rw[(hB.ρ i (Nat.zero_le _)).1]at hc;cases hc
 ·rw[hB.τ k]at hk;cases hk
 ·rw[(hB.ρ i (Nat.zero_le _)).1]at hc;cases hc
 ·rw[yX];exact⟨fun _=>.inr rfl,fun _=>⟨rfl,id⟩,fun e=>e.elim⟩
 ·rw[yX];rfl
 ·cases hi
 ·cases hi
 ·exact⟨(hR'.live c o hL).1,fun i hi=>by cases hi⟩
 ·have hk1:1≤k:=hk
  show (if k=0 then some (b,0+0,0+cap*sz)else none)=none
  rw[if_neg (by omega)]
 ·rw[uL]at hk
  have e:k=0:=by simpa using hk
  subst e
  exact⟨b,0+0,0+cap*sz,rfl,.inr ⟨hF,fun i hi=>(by cases hi),fun o h1 h2 hL=>(hR'.live b o hL).2 0 hρ,vs,T,hh,hroom⟩⟩
 ·rw[uL]at hk hk'
  have e:k=0:=by simpa using hk
  have e':k'=0:=by simpa using hk'
  intros;omega
 ·simp only[V]
  subst hn0
  exact⟨cap,Nat.zero_le _,.inr ⟨b,0,rfl,by simp only[VC],⟨_,rfl⟩,.inr ⟨by simp,hF,rfl⟩⟩⟩
 ·cases hX
 ·have:k=0:=by omega
  subst this;rfl
theorem CT.freezeZ{P:Program}{f:FuncId}{args cs:List AV}{n c sz:Nat}(h:CT P f [] args (.ms 0 0 n c sz) [.row cs] 0)(hn0:n=0):CT P f [] args (.sl [] 0 (.st 0 sz)) [] 1:=
 ⟨h.tri.freezeZ hn0,h.args,h.H0,trivial,fun _ h=>nomatch h⟩
def gmk{α:Type}(B:Int)(d:α)(n:Int):Option (List α):=if 0≤n∧n*B≤140737488355328 then some (List.replicate n.toNat d)else none
def X0(n:Nat)(i:Int):Option Nat:=if 0≤i∧i<n then some i.toNat else none
def X1{α:Type}(l:List α)(k:Nat)(x:α):Option (List α):=if k<l.length then some (l.set k x)else none
def gfz{α:Type}(n:Nat)(l:List α):Option (List α):=if l.length=n then some l else none
theorem zKw{α:Type}{n:Nat}{l r:List α}(h:gfz n l=some r):r=l∧n=r.length:=by
 unfold gfz at h
 split at h
 ·rename_i e;cases h;exact⟨rfl,e.symm⟩
 ·cases h
theorem Z7{f:Nat->AV}{s:Nat}(hs:0<s):∀n:Nat,(List.range (n*s)).map (fun j=>f (j % s))=(List.replicate n ((List.range s).map f)).flatten
 |0=>by simp
 |n+1=>by
  rw[Nat.add_mul,Nat.one_mul,List.range_add,List.map_append,Z7 hs n,List.replicate_succ',List.flatten_append]
  congr 1
  simp only[List.map_map,List.flatten_cons,List.flatten_nil,List.append_nil]
  apply List.map_congr_left
  intro j hj
  have:j<s:=List.mem_range.1 hj
  simp[Function.comp,Nat.add_comm (n*s) j,Nat.mod_eq_of_lt this]
theorem zBT{α:Type}{c:α->List AV}{d:α}:∀n:Nat,(List.replicate n (c d)).flatten=zD c (List.replicate n d)
 |0=>rfl
 |n+1=>by simp only[List.replicate_succ,List.flatten_cons,zD,List.flatMap_cons];rw[zBT n];rfl
theorem zKv{P:Program}{α:Type}{c:α->List AV}{sz:Nat}{t e:TypeId}{ie:TypeInfo}{z:Value}(ht:P.underlying t=some (.slice e))(hi:P.info? e=some ie)(hs:ie.size=sz)(hz:ie.zero=some z)(hzs:z.cells.size=sz)(h1:1≤sz){B:Nat}(hb:ie.bytes=B)(hB:1≤B){d:α}
  (hd:(List.range sz).map (fun j=>(ofV 8 (z.cells.getD j undef)).frz)=c d) {n:Int} {l:List α} (h:gmk (B:Int) d n=some l):Ob.ok P (.mk (rF P t (ai n) (ai n)) (zD c l) l.length):=by
 unfold gmk at h
 split at h
 ·rename_i hc
  cases h
  show rF P t (ai n) (ai n)=some (zD c (List.replicate n.toNat d),(List.replicate n.toNat d).length)
  unfold rF
  simp only[ht,hi,hz]
  have hb':(B:Int)≥1:=by omega
  have hn:n≤n*B:=by
   have:=Int.mul_le_mul_of_nonneg_left hb' hc.1
   simpa using this
  rw[if_pos ⟨trivial,hc.1,by rw[hb];exact hc.2,by omega,by rw[hzs,hs],by rw[hs];exact h1⟩]
  simp only[List.length_replicate,Option.some.injEq,Prod.mk.injEq,and_true]
  rw[hs,hzs,Z7 h1 (f:=fun j=>(ofV 8 (z.cells.getD j undef)).frz),hd,zBT]
 ·cases h
theorem zKu{P:Program}{t e:TypeId}{ie:TypeInfo}(ht:P.underlying t=some (.slice e))(hi:P.info? e=some ie){sz:Nat}(hs:ie.size=sz){b n k c z:Nat}{i:Int}(h:X0 n i=some k) :
  xD P t (.ms b 0 n c z) (ai i)=some (.mp b (k*sz)):=by
 unfold X0 at h
 split at h
 ·rename_i hc
  cases h
  unfold xD
  simp only[ht,hi]
  rw[if_pos hc,hs,Nat.zero_add]
 ·cases h
theorem zBU{α:Type}{c:α->List AV}{sz:Nat}(hc:∀x,(c x).length=sz):∀(l:List α) (k:Nat) (x:α),k<l.length->splice (zD c l) (k*sz) (c x)=zD c (l.set k x)
 | [],k,x,h=>by simp at h
 |y::l,0,x,h=>by
  simp only[splice,Nat.zero_mul,List.take_zero,List.nil_append,Nat.zero_add,zD,List.flatMap_cons,List.set_cons_zero]
  rw[List.drop_left' (by rw[hc,hc])]
 |y::l,k+1,x,h=>by
  have ih:=zBU hc l k x (by simpa using h)
  simp only[splice,zD]at ih
  simp only[splice,zD,List.flatMap_cons,List.set_cons_succ]
  rw[←ih]
  have e:(k+1)*sz=sz+k*sz:=by rw[Nat.add_mul,Nat.one_mul,Nat.add_comm]
  rw[e,List.take_append,List.take_of_length_le (by rw[hc];omega),hc,Nat.add_sub_cancel_left,show sz+k*sz+(c x).length=sz+(k*sz+(c x).length) by omega,←List.drop_drop,List.drop_left' (hc y)]
  simp only[List.append_assoc]
theorem zGi{P:Program}{α:Type}{c:α->List AV}{sz:Nat}(hc:wZ c sz){l l2:List α}{k:Nat}{x:α}(h:X1 l k x=some l2):Ob.ok P (.wt (zD c l) (k*sz) (.agg (c x)) sz (zD c l2)):=by
 unfold X1 at h
 split at h
 ·rename_i hk
  cases h
  refine⟨hc.one x,hc.len x,?_,zBU hc.len l k x hk⟩
  rw[vJ hc.len]
  have:=Nat.mul_le_mul_right sz (show k+1≤l.length from hk)
  rw[Nat.add_mul,Nat.one_mul]at this
  exact this
 ·cases h
theorem zKt{P:Program}{α:Type}{c:α->List AV}{a:α->AV}(hc:wZ c 1)(ha:∀x,c x=[a x])(hs:∀x,(a x).sound=true∧tP (a x)=[a x]){l l2:List α}{k:Nat}{x:α}(h:X1 l k x=some l2):Ob.ok P (.wt (zD c l) (k*1) (a x) 1 (zD c l2)):=by
 obtain⟨_,h2,h3,h4⟩:=zGi (P:=P) hc h
 refine⟨(hs x).1,by rw[(hs x).2];rfl,h3,?_⟩
 rw[(hs x).2]
 have h4':splice (zD c l) (k*1) (c x)=zD c l2:=h4
 rw[ha]at h4'
 exact h4'
theorem B9{P:Program}{α:Type}{c:α->List AV}{sz:Nat}(hc:wZ c sz){t e:TypeId}{ie:TypeInfo}(ht:P.underlying t=some (.slice e))(hi:P.info? e=some ie)(hs:ie.size=sz){l r:List α}{b:Int}{k k':IntKind}
  {o:Own} (h:gsl l 0 b=some r):vG P t (.sl (zD c l) l.length o) none (some (.val (.int k b))) (some (.val (.int k' b)))=some (.sl (zD c r) r.length .full):=by
 obtain⟨_,h1,h2,rfl⟩:=M7 h
 subst hs
 have key:vG P t (.sl (zD c l) l.length o) none (some (.val (.int k b))) (some (.val (.int k' b)))=some (.sl (zD c (l.take b.toNat)) (l.take b.toNat).length (o.cut 0 b.toNat (Nat.beq b.toNat l.length) (Nat.beq b.toNat b.toNat))):=by
  unfold vG
  simp only[ht,hi,amx,K6,xT]
  rw[if_pos ⟨h1,h2⟩]
  simp only[Option.map_some]
  have hbb:(0≤b∧b≤(b.toNat:Nat)):=⟨h1,by omega⟩
  rw[if_pos hbb]
  simp only[Option.isSome_some,Option.isNone_some,Bool.false_eq_true,and_false,if_false]
  rw[if_pos (by rw[vJ hc.len];simp)]
  simp only[Nat.sub_zero,Nat.zero_mul,List.drop_zero,Bool.true_and]
  rw[iW hc.len]
  have hl:(l.take b.toNat).length=b.toNat:=by simp;omega
  rw[hl]
 rw[key]
 simp only[Own.cut,Nat.beq_refl,if_true,Int.sub_zero,Int.toNat_zero,List.drop_zero]
def zHX(n:Nat)(a b:Int):Option (Nat×Nat):=if 0≤a∧a≤b∧b≤n then some (a.toNat,(b-a).toNat)else none
theorem zHY{n:Nat}{a b:Int}{r:Nat×Nat}(h:zHX n a b=some r):0≤a∧a≤b∧b≤n∧r.1=a.toNat∧r.2=b.toNat-a.toNat:=by
 unfold zHX at h
 split at h
 ·rename_i q
  cases h
  exact⟨q.1,q.2.1,q.2.2,rfl,by show (b-a).toNat=_;omega⟩
 ·cases h
theorem zKs{P:Program}{t e:TypeId}{ie:TypeInfo}(ht:P.underlying t=some (.slice e))(hi:P.info? e=some ie){sz:Nat}(hs:ie.size=sz)(h1:1≤sz){b off n c:Nat}{y:Int}{r:Nat×Nat}(h:zHX c 0 y=some r) :
  vG P t (.ms b off n c sz) none (some (ai y)) none=some (.ms b off r.2 c sz):=by
 obtain⟨q1,q2,q3,q4,q5⟩:=zHY h
 subst hs
 have h2:xT c c (some (ai y))=some y.toNat:=by
  show (if 0≤y∧y≤(c:Int)then some y.toNat else none)=_
  rw[if_pos ⟨by omega,q3⟩]
 unfold vG
 simp only[ht,hi,amx,show msb n c (some (ai y)) none=c from rfl,h2]
 rw[if_neg (by simp)]
 simp only[xT]
 rw[if_pos ⟨trivial,h1⟩,q5]
 simp
theorem wtE{P:Program}{α:Type}{c:α->List AV}{sz:Nat}(hc:wZ c sz){l l2:List α}{k:Nat}{x:α}{cs:List AV}(he:c x=cs)(h:X1 l k x=some l2):Ob.ok P (.wt (zD c l) (k*sz) (.agg cs) sz (zD c l2)):=he▸zGi hc h
theorem zHZ{P:Program}{α:Type}{c:α->List AV}{sz:Nat}(hc:wZ c sz){t e:TypeId}{ie:TypeInfo}{z:Value}(ht:P.underlying t=some (.slice e))(hi:P.info? e=some ie)(hs:ie.size=sz)(hz:ie.zero=some z)(hzs:z.cells.size=sz)(h1:1≤sz){B:Nat}(hb:ie.bytes=B)(hB:1≤B)
  {l m r:List α} (h:yR B l m=some r) (hm:m.length≠0) (z1:Option Nat) (hz1:∀q,z1=some q->q=sz) (src:Option (Nat×Nat×Nat)) (hsrc:∀q,src=some q->q.2.2=sz) :
  d8 P t t z1 (zD c l) l.length src (zD c m) m.length=some (zD c r,r.length):=by
 obtain⟨h2,rfl⟩:=tL h
 subst hs
 subst hb
 have h3:(l.length+m.length)*1≤(l.length+m.length)*ie.bytes:=Nat.mul_le_mul_left _ hB
 unfold d8
 simp only[ht,hi,hz]
 rw[if_pos ⟨trivial,vJ hc.len l,vJ hc.len m,h1,hzs,h2,by omega,M3 hc.one m,hm,hz1,hsrc⟩,M4,List.length_append]
theorem zKr{P:Program}{α:Type}{c:α->List AV}{sz:Nat}(hc:wZ c sz){t e:TypeId}{ie:TypeInfo}{z:Value}(ht:P.underlying t=some (.slice e))(hi:P.info? e=some ie)(hs:ie.size=sz)(hz:ie.zero=some z)(hzs:z.cells.size=sz)(h1:1≤sz){B:Nat}(hb:ie.bytes=B)(hB:1≤B)
  {m r:List α} (h:yR B ([]:List α) m=some r) (hm:m.length≠0):Ob.ok P (.mk (d8 P t t none [] 0 none (zD c m) m.length) (zD c r) r.length):=
 zHZ hc ht hi hs hz hzs h1 hb hB h hm none (fun _ h=>nomatch h) none (fun _ h=>nomatch h)
theorem zNn{P:Program}{t e:TypeId}{ie:TypeInfo}(ht:P.underlying t=some (.slice e))(hi:P.info? e=some ie){n:Nat}(h:n=0):Ob.ok P (.same t t n):=⟨rfl,h,e,ie,ht,hi⟩
abbrev slv {α:Type} (c:α->List AV) (l:List α) (o:Own):AV:=.sl (zD c l) l.length o
abbrev nos (n:Nat):List Orc:=List.replicate n .no
structure OL (P:Program) (os:List Orc) (ob:List Ob):Prop where
 ok:yB P ob
theorem yB.rev{P:Program}:∀(a b:List Ob),yB P a->yB P b->yB P (a.reverseAux b)
 | [],_,_,k=>k
 |x::a,b,h,k=>yB.rev a (x::b) h.2 ⟨h.1,k⟩
section
variable {P:Program} {os:List Orc} {ob:List Ob}
theorem OL.nil:OL P [] []:=⟨trivial⟩
theorem oB{b b':Bool}(n:Nat)(h:b=b')(k:OL P os ob):OL P (.bit b'::(nos n++os)) (.bit b b'::ob):=⟨⟨h,k.ok⟩⟩
theorem oA{x:Option AV}{a:AV}(n:Nat)(h:x=some a)(k:OL P os ob):OL P (.av a::(nos n++os)) (.av x a::ob):=⟨⟨h,k.ok⟩⟩
theorem oC{f:FuncId}{H0:List Blk}{args:List AV}{res:AV}{H1:List Blk}{nst:Nat}(n:Nat)(ι:List Nat)(h:CT P f H0 args res H1 nst)(k:OL P os ob):OL P (.call ι H1 nst res none::(nos n++os)) (.call f H0 args res H1 nst::ob):=⟨⟨h,k.ok⟩⟩
theorem oK{b b':Bool}{f:FuncId}{H0:List Blk}{args:List AV}{res:AV}{H1:List Blk}{nst:Nat}(n:Nat)(ι:List Nat)(hb:b=b')(h:CT P f H0 args res H1 nst)(k:OL P os ob):OL P (.call ι H1 nst res (some b')::(nos n++os)) (.call f H0 args res H1 nst :: .bit b b'::ob):=⟨⟨h,hb,k.ok⟩⟩
theorem oF{x:Option AV}{a:AV}(n:Nat)(h:∃a0,x=some a0∧a0.frz=a)(k:OL P os ob):OL P (.fz a::(nos n++os)) (.fz x a::ob):=⟨⟨h,k.ok⟩⟩
theorem oP{t t2:TypeId}{es es2 es':List AV}{n1 n2 n' sz:Nat}{e:Bool}(n:Nat)(h:Ob.ok P (.app t t2 es es2 es' n1 n2 n' sz e))(k:OL P os ob):OL P (.app es' n' sz e::(nos n++os)) (.app t t2 es es2 es' n1 n2 n' sz e::ob):=⟨⟨h,k.ok⟩⟩
theorem oS{cs es:List AV}{l m:Nat}(n:Nat)(h:Ob.ok P (.cells cs es l m))(k:OL P os ob):OL P (.sl es m::(nos n++os)) (.cells cs es l m::ob):=⟨⟨h,k.ok⟩⟩
theorem oL{t:TypeId}{X:Blk}{key:AV}{o:Bool}{a:AV}(n:Nat)(h:Ob.ok P (.lk t X key o a))(k:OL P os ob):OL P (.lk a::(nos n++os)) (.lk t X key o a::ob):=⟨⟨h,k.ok⟩⟩
theorem oU{t:TypeId}{X Y:Blk}{key v:AV}(n:Nat)(h:Ob.ok P (.mu t X key v Y))(k:OL P os ob):OL P (.mu Y::(nos n++os)) (.mu t X key v Y::ob):=⟨⟨h,k.ok⟩⟩
theorem oM{x:Option (List AV×Nat)}{cs:List AV}{m:Nat}(n:Nat)(h:Ob.ok P (.mk x cs m))(k:OL P os ob):OL P (.mk cs m::(nos n++os)) (.mk x cs m::ob):=⟨⟨h,k.ok⟩⟩
theorem oW{cs:List AV}{off:Nat}{v:AV}{sz:Nat}{cs':List AV}(n:Nat)(h:Ob.ok P (.wt cs off v sz cs'))(k:OL P os ob):OL P (.wt cs'::(nos n++os)) (.wt cs off v sz cs'::ob):=⟨⟨h,k.ok⟩⟩
theorem oQ{t t2:TypeId}{m:Nat}(n:Nat)(h:Ob.ok P (.same t t2 m))(k:OL P os ob):OL P (.same::(nos n++os)) (.same t t2 m::ob):=⟨⟨h,k.ok⟩⟩
theorem oD{es:List AV}(h:AV.DataL es)(k:OL P os ob):OL P os (.data es::ob):=⟨⟨h,k.ok⟩⟩
end
theorem spl{α:Type}{b:Bool}{x y:Option α}{r:α}(h:(if b=true then x else y)=some r):(b=true∧x=some r)∨(b=false∧y=some r):=by
 cases b
 ·exact .inr ⟨rfl,by simpa using h⟩
 ·exact .inl ⟨rfl,by simpa using h⟩
theorem spT{α:Type}{b:Bool}{x:Option α}{r:α}(h:(if b=true then x else none)=some r):b=true∧x=some r:=by
 rcases spl h with h|⟨_,h⟩
 ·exact h
 ·cases h
theorem nn{α:Type}{r:α}{p:Prop}(h:(none:Option α)=some r):p:=nomatch h
theorem zNm{α:Type}{b:Bool}{x y:α}(h:b=true):(if b=true then x else y)=x:=if_pos h
theorem zKq{α:Type}{b:Bool}{x y:α}(h:b=false):(if b=true then x else y)=y:=by subst h;rfl
theorem sj{α:Type}{x y:α}(h:some x=some y):x=y:=Option.some.inj h
def sp(j:Nat->Value):Nat->Nat->List (Nat×AV)->List AV
 |0,_,_=>[]
 |n+1,i,l=>match l with
  | []=>.val (j i)::sp j n (i+1) []
  | (m,a)::l'=>bif Nat.beq m i then a::sp j n (i+1) l' else .val (j i)::sp j n (i+1) l
section
variable {P:Program} {pr:FuncId->List AV->LSt->Option LA} (hp:tK P pr) (hm:P.follows .mixedOrders=true) {na:Nb} {fn:Func} {f:FuncId}
include hp hm
theorem OL.toHead{H0 H1:List Blk}{args:List AV}{res:AV}{nst:Nat}(q:P.funcs[f]? = some fn∧fn.body.isNone=false)(m:Nat)(rs:List (Option Nat×Nat×Nat))(keep ks live:List Nat){os:List Orc}{ob:List Ob}(k:OL P os ob){c:Code}{fs':List Fr}{E:(Nat->Value)->List AV}{S:LSt}
  (hk:∀j,Dl P H0.length c (E j) S (wD P H0.length (lP P H0.length fn res H1 nst) fs'))
  (h:∀j,jP P pr H0.length 3000 (.run (bod fn)) [] (args++List.replicate (fn.ntmps-args.length) (.val undef)) (st0 H0) ((nos m++os).reverseAux []) rs keep ks live j=some (c,fs',E j,S,ob.reverseAux [])):vV P f H0 args res H1 nst:=
 vV.toHead hp hm q.1 q.2 3000 _ rs keep ks live h (yB.rev _ _ k.ok trivial) hk
theorem OL.toFin{H0 H1:List Blk}{args:List AV}{res:AV}{nst:Nat}(q:P.funcs[f]? = some fn∧fn.body.isNone=false)(m:Nat)(rs:List (Option Nat×Nat×Nat))(keep ks:List Nat)(own:Bool){os:List Orc}{ob:List Ob}(k:OL P os ob)
  (h:aD P pr H0.length fn 3000 (.run (bod fn)) [] (args++List.replicate (fn.ntmps-args.length) (.val undef)) (st0 H0) ((nos m++os).reverseAux []) rs keep ks own=some (res,H1,ob.reverseAux [])) (hn:nst≤ks.length):vV P f H0 args res H1 nst:=
 vV.toFin hp hm q.1 q.2 3000 _ rs keep ks own h (yB.rev _ _ k.ok trivial) hn
theorem OL.lHead{Q:AX->List AV->LSt->Prop}{c c':Code}{fs fs':List Fr}{env:List AV}{s S:LSt}(m:Nat)(rs:List (Option Nat×Nat×Nat))(keep ks live:List Nat){os:List Orc}{ob:List Ob}(k:OL P os ob){E:(Nat->Value)->List AV}
  (hk:∀j,Dl P na c' (E j) S (wD P na Q fs')) (h:∀j,jP P pr na.n 3000 (.run c) (.loop c::fs) env s ((nos m++os).reverseAux []) rs keep ks live j=some (c',fs',E j,S,ob.reverseAux [])):Dl P na c env s (wD P na Q fs):=
 Dl.toHead hp hm 3000 _ rs keep ks live h (yB.rev _ _ k.ok trivial) hk
theorem OL.lFin{c:Code}{fs:List Fr}{env:List AV}{s:LSt}{res:AV}{H1:List Blk}{nst:Nat}(m:Nat)(rs:List (Option Nat×Nat×Nat))(keep ks:List Nat)(own:Bool){os:List Orc}{ob:List Ob}(k:OL P os ob)
  (h:aD P pr na.n fn 3000 (.run c) (.loop c::fs) env s ((nos m++os).reverseAux []) rs keep ks own=some (res,H1,ob.reverseAux [])) (hn:nst≤ks.length):Dl P na c env s (wD P na (lP P na fn res H1 nst) fs):=
 Dl.toFin hp hm 3000 _ rs keep ks own h (yB.rev _ _ k.ok trivial) hn
end
def gbs(s:ByteArray):List U8:=s.data.toList.map fun b=>(b.toNat:Int)
theorem lV(s:ByteArray):(gbs s).length=s.size:=by unfold gbs;rw[List.length_map,Array.length_toList];rfl
theorem zEC(s:ByteArray):wY s=zD u8C (gbs s):=by
 unfold wY gbs
 generalize s.data.toList=l
 induction l with
 |nil=>rfl
 |cons b l ih=>
  unfold zD at ih ⊢
  rw[List.map_cons,List.map_cons,List.flatMap_cons,ih];rfl
def zNl(a b:Int):Option Int:=if b<0 then none else some (a.fdiv (2 ^ (min b.toNat IntKind.i64.bits)))
theorem zQT{P:Program}{t:TypeId}{a b r:Int}(h:zNl a b=some r):K5 P .shr t (ai a) (ai b)=some (ai r):=by
 unfold zNl at h
 split at h
 ·cases h
 ·rename_i hc
  cases h
  unfold K5 I2 zQE
  simp only[ai,if_neg hc,if_true]
section
variable {P:Program} {t t2 e:TypeId} {ie:TypeInfo} {z:Value}
theorem zBV(ht:P.underlying t=some (.slice e))(hu:P.underlying t2=some .string)(hi:P.info? e=some ie)(hs:ie.size=1)(hz:ie.zero=some z)(hzs:z.cells.size=1)(hb:ie.bytes=1)
  {l r:List U8} {bs:ByteArray} (h:yR 1 l (gbs bs)=some r) {o:Own} {s:LSt} {ev:Operand->AV} :
  rE P t t2 ev (.sl (zD u8C l) l.length o) bs s=bif Nat.beq bs.size 0 then some { ev:=ev,v:=.sl (zD u8C l) l.length o }
     else
      match o with
      | .full=>some { ev:=ev,ns:=s.ns,new:=1,v:=.sl (zD u8C r) r.length (.st s.ns 1) }
      | .nl=>some { ev:=ev,ns:=s.ns,new:=1,v:=.sl (zD u8C r) r.length (.st s.ns 1) }
      | .st k sz'=>bif s.own.any (Nat.beq k)&&Nat.beq sz' 1 then some { ev:=ev,use:=[k],ns:=s.ns,new:=1,v:=.sl (zD u8C r) r.length (.st s.ns 1) }else none
      |_=>none:=by
 obtain⟨h2,rfl⟩:=tL h
 rw[lV]at h2
 unfold rE
 simp only[ht,hu,hi,hz,hs,hb]
 have hcond:(Nat.beq (zD u8C l).length (l.length*1)&&Nat.beq 1 1&&Nat.beq z.cells.size 1&&Nat.ble ((l.length+bs.size)*1) 140737488355328&&Nat.ble (l.length+bs.size) 4611686018427387904)=true:=by
  simp only[Bool.and_eq_true]
  exact⟨⟨⟨⟨by rw[vJ M5.len];simp,rfl⟩,by rw[hzs];rfl⟩,by simpa using h2⟩,by simp;omega⟩
 rw[hcond]
 simp only[cond_true,M4,List.length_append,lV,zEC]
 cases o<;>rfl
theorem zKp(ht:P.underlying t=some (.slice e))(hu:P.underlying t2=some .string)(hi:P.info? e=some ie)(hs:ie.size=1)(hz:ie.zero=some z)(hzs:z.cells.size=1)(hb:ie.bytes=1)
  {l r:List U8} {bs:ByteArray} (h:yR 1 l (gbs bs)=some r) (hm:bs.size≠0):Ob.ok P (.aps t t2 (zD u8C l) bs (zD u8C r) l.length r.length 1 false):=by
 intro ev s o
 rw[zBV ht hu hi hs hz hzs hb h]
 cases hn:Nat.beq bs.size 0 with
 |true=>exact absurd (Nat.eq_of_beq_eq_true hn) hm
 |false=>cases o<;>rfl
theorem zKo(ht:P.underlying t=some (.slice e))(hu:P.underlying t2=some .string)(hi:P.info? e=some ie)(hs:ie.size=1)(hz:ie.zero=some z)(hzs:z.cells.size=1)(hb:ie.bytes=1)
  {l r:List U8} {bs:ByteArray} (h:yR 1 l (gbs bs)=some r) (hm:bs.size=0):Ob.ok P (.aps t t2 (zD u8C l) bs (zD u8C r) l.length r.length 1 true):=by
 intro ev s o
 rw[zBV ht hu hi hs hz hzs hb h]
 obtain⟨_,rfl⟩:=tL h
 have:gbs bs=[]:=List.length_eq_zero_iff.1 (by rw[lV,hm])
 rw[hm,this,List.append_nil];rfl
end
section
variable {P:Program} {os:List Orc} {ob:List Ob}
theorem zNk{s:ByteArray}{p:Nat}(h:p<s.size):Ob.ok P (.nx (.obj (.stringIter s p)) (.tup [ab true,ai (p:Int),.val (.int .i32 ((Utf8.decode s p).1:Nat))]) (some (.obj (.stringIter s (p+(Utf8.decode s p).2))))):=by
 intro ev i st hl
 unfold B2
 have hb:Nat.blt p s.size=true:=Nat.ble_eq_true_of_le h
 simp only[hl,hb,cond_true]
 rfl
theorem zNj{s:ByteArray}{p:Nat}(h:¬p<s.size):Ob.ok P (.nx (.obj (.stringIter s p)) (.tup [ab false]) none):=by
 intro ev i st hl
 unfold B2
 have hb:Nat.blt p s.size=false:=by
  cases hc:Nat.blt p s.size with
  |false=>rfl
  |true=>exact absurd (Nat.le_of_ble_eq_true hc) h
 simp only[hl,hb,cond_false]
 rfl
theorem oMz{x:Option (List AV×Nat)}{cs:List AV}{m:Nat}(n:Nat)(h:Ob.ok P (.mk x cs m))(k:OL P os ob):OL P (.mz cs m::(nos n++os)) (.mk x cs m::ob):=⟨⟨h,k.ok⟩⟩
theorem oCx{f:FuncId}{H0:List Blk}{args:List AV}{res:AV}{H1:List Blk}{nst:Nat}(n:Nat)(ι:List Nat)(h:CT P f H0 args res H1 nst)(k:OL P os ob):OL P (.callx ι H1 nst res none::(nos n++os)) (.call f H0 args res H1 nst::ob):=⟨⟨h,k.ok⟩⟩
theorem oCl(n:Nat)(k:OL P os ob):OL P (.cl::(nos n++os)) ob:=⟨k.ok⟩
theorem oCv{x:Option ByteArray}{bs:ByteArray}(n:Nat)(h:Ob.ok P (.str x bs))(k:OL P os ob):OL P (.cv bs::(nos n++os)) (.str x bs::ob):=⟨⟨h,k.ok⟩⟩
theorem N9:∀l:List U8,eG (zD u8C l)=some l
 | []=>rfl
 |x::l=>by
  show eG (.val (.int .u8 x)::zD u8C l)=_
  rw[eG,N9 l];rfl
theorem zKn{t d e:TypeId}(hs:P.underlying t=some (.slice e))(hd:P.underlying d=some .string)(he:P.underlying e=some (.int .u8))(l:List U8):Ob.ok P (.str (nM P t d (zD u8C l) l.length) (sZ l)):=by
 show nM P t d (zD u8C l) l.length=some (sZ l)
 have h1:(zD u8C l).length=l.length:=by rw[vJ M5.len,Nat.mul_one]
 unfold nM
 simp only[hs,hd,he]
 rw[List.take_of_length_le (by omega),N9]
 simp
def gtx(n:Nat)(l:List U8):Option ByteArray:=if l.length=n then some (sZ l)else none
theorem zKm{t d e:TypeId}(hs:P.underlying t=some (.slice e))(hd:P.underlying d=some .string)(he:P.underlying e=some (.int .u8)){l:List U8}{n:Nat}{bs:ByteArray}(h:gtx n l=some bs):Ob.ok P (.str (nM P t d (zD u8C l) n) bs):=by
 unfold gtx at h
 split at h
 ·rename_i hn
  subst hn
  cases h
  exact zKn hs hd he l
 ·cases h
theorem zSR{t t2:TypeId}{k:IntKind}(h2:P.underlying t2=some (.int k)){n:Int}(hp:n>0){cs:List AV}{m:Nat}(h:Ob.ok P (.mk (rF P t (ai n) (ai n)) cs m)):Ob.ok P (.mk (L7 P t t2 (ai n)) cs m):=by
 show L7 P t t2 (ai n)=some (cs,m)
 unfold L7
 rw[h2]
 simp only
 rw[if_pos (by omega)]
 exact h
theorem oX{X:Blk}{v:AV}{Y:Option Blk}(n:Nat)(h:Ob.ok P (.nx X v Y))(k:OL P os ob):OL P (.nx v Y::(nos n++os)) (.nx X v Y::ob):=⟨⟨h,k.ok⟩⟩
theorem oPs{t t2:TypeId}{es es':List AV}{bs:ByteArray}{n1 n' sz:Nat}{e:Bool}(n:Nat)(h:Ob.ok P (.aps t t2 es bs es' n1 n' sz e))(k:OL P os ob):OL P (.app es' n' sz e::(nos n++os)) (.aps t t2 es bs es' n1 n' sz e::ob):=⟨⟨h,k.ok⟩⟩
end
abbrev jS:=Ent
def entZ(e:Ent):List AV:=
  [ai e.kind,at' e.name,ai e.type.k,ai e.type.n,.sl (zD zA e.type.sub) e.type.sub.length .no,ai e.body.k,ai e.body.n,.sl (zD zA e.body.sub) e.body.sub.length .no,
   ai e.fam,ai e.place,ai e.pars,ai e.inds,ai e.level,.sl (zD zM e.cons) e.cons.length .z,.sl (zD zM e.fields) e.fields.length .z]
theorem zAl:wZ entZ 15:=⟨fun _=>rfl,fun x=>⟨trivial,trivial,trivial,trivial,⟨trivial,dT _⟩,trivial,trivial,⟨trivial,dT _⟩,trivial,trivial,trivial,trivial,trivial,⟨trivial,dI _⟩,⟨trivial,dI _⟩,trivial⟩,fun _=>rfl⟩
theorem CT.wk{P:Program}{f:FuncId}{H0:List Blk}{args:List AV}{res res':AV}{H1:List Blk}{nst:Nat}(h:CT P f H0 args res H1 nst)(k:Wk res res')(hf:res'.fine (fun i=>i<H1.length)):CT P f H0 args res' H1 nst:=by
 refine⟨fun G0 W cargs hB hR hv=>(h.tri G0 W cargs hB hR hv).mono ?_,h.args,h.H0,hf,h.H1⟩
 rintro e W' ⟨u,G',s',h1,h2,h3,h4,h5⟩
 exact⟨u,G',s',h1,h2,h3,k _ _ _ h4,h5⟩
theorem V.znil{G:Gh}{w:World}{u:Value}(h:V G w (.sl [] 0 .z) u):V G w (.sl [] 0 .full) u:=by
 simp only[V,rU]at h ⊢
 obtain⟨cap,hc,⟨h1,h2,h3,h4,h5⟩|⟨b,off,h1,h2,h3⟩⟩:=h
 ·exact⟨cap,hc,.inl ⟨h1,h2,h3,h4,trivial⟩⟩
 ·exact⟨cap,hc,.inr ⟨b,off,h1,h2,h3 (by trivial)⟩⟩
theorem CT.zfull{P:Program}{f:FuncId}{args:List AV}(h:CT P f [] args (.sl [] 0 .full) [] 0):CT P f [] args (.sl [] 0 .z) [] 0:=
 h.wk (by
  intro G w u h
  simp only[V,rU]at h ⊢
  obtain⟨cap,hc,⟨h1,h2,h3,h4,h5⟩|⟨b,off,h1,h2,h3⟩⟩:=h
  ·exact⟨cap,hc,.inl ⟨h1,h2,h3,h4,trivial⟩⟩
  ·exact⟨cap,hc,.inr ⟨b,off,h1,h2,fun _=>h3⟩⟩) trivial
theorem CT.zno{P:Program}{f:FuncId}{args es:List AV}{n:Nat}(hn:n≠0)(hd:AV.DataL es)(h:CT P f [] args (.sl es n .no) [] 0):CT P f [] args (.sl es n .z) [] 0:=
 h.wk (by
  intro G w u h
  simp only[V,rU]at h ⊢
  obtain⟨cap,hc,⟨h1,h2,h3,h4,h5⟩|⟨b,off,h1,h2,h3⟩⟩:=h
  ·exact(hn h2).elim
  ·exact⟨cap,hc,.inr ⟨b,off,h1,h2,fun e=>(hn e).elim⟩⟩) hd
theorem V.unown{G:Gh}{w:World}{es:List AV}{n:Nat}{o:Own}{u:Value}(h:V G w (.sl es n o) u):V G w (.sl es n .no) u:=V.frz _ _ h
theorem VC.entZ{G:Gh}{w:World}:∀(l:List Ent) (b off:Nat),VC G w (zD Ab.entZ l) b off->VC G w (zD zI l) b off
 | [],_,_,_=>by simp[zD,VC]
 |e::l,b,off,h=>by
  have h':VC G w (Ab.entZ e++zD Ab.entZ l) b off:=h
  show VC G w (zI e++zD zI l) b off
  simp only[Ab.entZ,zI,List.cons_append,List.nil_append,VC]at h' ⊢
  obtain⟨l0,c0,l1,c1,l2,c2,l3,c3,l4,c4,l5,c5,l6,c6,l7,c7,l8,c8,l9,c9,l10,c10,l11,c11,l12,c12,l13,⟨v13,e13,h13⟩,l14,⟨v14,e14,h14⟩,hr⟩:=h'
  exact⟨l0,c0,l1,c1,l2,c2,l3,c3,l4,c4,l5,c5,l6,c6,l7,c7,l8,c8,l9,c9,l10,c10,l11,c11,l12,c12,l13,⟨v13,e13,V.unown h13⟩,l14,⟨v14,e14,V.unown h14⟩,VC.entZ l _ _ hr⟩
theorem wkr(a:AV):Wk a a:=fun _ _ _ h=>h
theorem wkE(l:List Ent)(o:Own):Wk (.sl (zD entZ l) l.length o) (.sl (zD zI l) l.length .no):=by
 intro G w u h
 simp only[V]at h ⊢
 obtain⟨cap,hc,hh⟩:=h
 refine⟨cap,hc,?_⟩
 rcases hh with⟨h1,h2,h3,h4,h5⟩|⟨b,off,hu,hcells,ho⟩
 ·have:l=[]:=List.length_eq_zero_iff.1 h2
  subst this
  exact .inl ⟨rfl,rfl,h3,h4,trivial⟩
 ·exact .inr ⟨b,off,hu,VC.entZ l b off hcells,trivial⟩
theorem wkC{x:Ent}(h:x.cons.isEmpty=true):Wk (.agg (entZ x)) (.agg [ai x.kind,at' x.name,ai x.type.k,ai x.type.n,.sl (zD zA x.type.sub) x.type.sub.length .no,ai x.body.k,ai x.body.n,.sl (zD zA x.body.sub) x.body.sub.length .no,
   ai x.fam,ai x.place,ai x.pars,ai x.inds,ai x.level,.sl (zD zM ([]:List Int)) ([]:List Int).length .full,.sl (zD zM x.fields) x.fields.length .no]):=by
  intro G w u hv
  have hc:x.cons=[]:=List.isEmpty_iff.1 h
  simp only[V,Ab.entZ,hc]at hv ⊢
  obtain⟨vs,rfl,hl⟩:=hv
  refine⟨vs,rfl,?_⟩
  match vs,hl with
  | [v0,v1,v2,v3,v4,v5,v6,v7,v8,v9,v10,v11,v12,v13,v14],hl=>
    simp only[VL]at hl ⊢
    obtain⟨h0,h1,h2,h3,h4,h5,h6,h7,h8,h9,h10,h11,h12,h13,h14,_⟩:=hl
    exact⟨h0,h1,h2,h3,h4,h5,h6,h7,h8,h9,h10,h11,h12,V.znil h13,V.unown h14,trivial⟩
section
variable {P:Program} {os:List Orc} {ob:List Ob}
theorem oWk{a0 a:AV}(n:Nat)(h:Wk a0 a)(k:OL P os ob):OL P (.wk a::(nos n++os)) (.wk a0 a::ob):=⟨⟨h,k.ok⟩⟩
end
abbrev wH:Nat->Prop:=fun _=>True
mutual
def AV.ptB(keep:List Nat):AV->Bool
 | .val _=>true
 | .agg cs=>AV.ptBL keep cs
 | .tup cs=>AV.ptBL keep cs
 | .sl _ _ _=>true
 | .ip _=>true
 | .mp i _=>tQ keep i
 | .ms i _ _ _ _=>tQ keep i
 | .obj i=>tQ keep i
 | .clo _ fs cs=>AV.ptBL keep fs&&AV.ptBL keep cs
def AV.ptBL(keep:List Nat):List AV->Bool
 | []=>true
 |a::l=>AV.ptB keep a&&AV.ptBL keep l
end
mutual
theorem AV.pt_fine{keep:List Nat}:∀a:AV,a.ptB keep=true->a.fine wH->a.fine (fun i=>i∈keep)
 | .val _,_,_=>trivial
 | .agg cs,h,k=>AV.pt_fineL cs h k
 | .tup cs,h,k=>AV.pt_fineL cs h k
 | .sl _ _ _,_,k=>k
 | .ip _,_,k=>k
 | .mp _ _,h,_=>wB.1 h
 | .ms _ _ _ _ _,h,_=>wB.1 h
 | .obj _,h,_=>wB.1 h
 | .clo _ fs cs,h,k=>by
  simp only[AV.ptB,Bool.and_eq_true]at h
  exact⟨AV.pt_fineL fs h.1 k.1,AV.pt_fineL cs h.2 k.2⟩
theorem AV.pt_fineL{keep:List Nat}:∀l:List AV,AV.ptBL keep l=true->AV.fineL wH l->AV.fineL (fun i=>i∈keep) l
 | [],_,_=>trivial
 |a::l,h,k=>by
  simp only[AV.ptBL,Bool.and_eq_true]at h
  exact⟨AV.pt_fine a h.1 k.1,AV.pt_fineL l h.2 k.2⟩
end
mutual
theorem AV.fine_any{p:Nat->Prop}:∀a:AV,a.fine p->a.fine wH
 | .val _,_=>trivial
 | .agg cs,h=>AV.fine_anyL cs h
 | .tup cs,h=>AV.fine_anyL cs h
 | .sl _ _ _,h=>h
 | .ip _,h=>h
 | .mp _ _,_=>trivial
 | .ms _ _ _ _ _,_=>trivial
 | .obj _,_=>trivial
 | .clo _ fs cs,h=>⟨AV.fine_anyL fs h.1,AV.fine_anyL cs h.2⟩
theorem AV.fine_anyL{p:Nat->Prop}:∀l:List AV,AV.fineL p l->AV.fineL wH l
 | [],_=>trivial
 |a::l,h=>⟨AV.fine_any a h.1,AV.fine_anyL l h.2⟩
end
mutual
theorem AV.unren_any{r:Nat->Nat}{f:Nat->Option Nat}:∀a:AV,(a.ren r f).fine wH->a.fine wH
 | .val _,_=>trivial
 | .agg cs,h=>AV.unren_anyL cs h
 | .tup cs,h=>AV.unren_anyL cs h
 | .sl _ _ _,h=>h
 | .ip _,h=>h
 | .mp _ _,_=>trivial
 | .ms _ _ _ _ _,_=>trivial
 | .obj _,_=>trivial
 | .clo _ fs cs,h=>⟨AV.unren_anyL fs h.1,AV.unren_anyL cs h.2⟩
theorem AV.unren_anyL{r:Nat->Nat}{f:Nat->Option Nat}:∀l:List AV,AV.fineL wH (AV.renL r f l)->AV.fineL wH l
 | [],_=>trivial
 |a::l,h=>⟨AV.unren_any a h.1,AV.unren_anyL l h.2⟩
end
mutual
theorem AV.unfrz_any:∀a:AV,a.frz.fine wH->a.fine wH
 | .val _,_=>trivial
 | .agg cs,h=>AV.unfrz_anyL cs h
 | .tup cs,h=>AV.unfrz_anyL cs h
 | .sl _ _ _,h=>h
 | .ip _,h=>h
 | .mp _ _,_=>trivial
 | .ms _ _ _ _ _,_=>trivial
 | .obj _,_=>trivial
 | .clo _ fs cs,h=>⟨AV.unfrz_anyL fs h.1,AV.unfrz_anyL cs h.2⟩
theorem AV.unfrz_anyL:∀l:List AV,AV.fineL wH (AV.frzL l)->AV.fineL wH l
 | [],_=>trivial
 |a::l,h=>⟨AV.unfrz_any a h.1,AV.unfrz_anyL l h.2⟩
end
theorem O0(a:AV)(h:(frz1 a).fine wH):a.fine wH:=by
 unfold frz1 at h
 split at h
 ·exact h
 ·exact AV.unfrz_any _ h
theorem C0:∀l:List AV,AV.fineL wH (l.map frz1)->AV.fineL wH l
 | [],_=>trivial
 |a::l,h=>⟨O0 a h.1,C0 l h.2⟩
theorem dG(a:AV)(h:(frzT a).fine wH):a.fine wH:=by
 unfold frzT at h
 split at h
 ·exact C0 _ h
 ·exact O0 _ h
theorem zED{keep:List Nat}(a:AV)(h:(frzN keep a).fine wH):a.fine wH:=by
 unfold frzN at h
 split at h
 ·rename_i es n o
  cases hb:o.nlB with
  |false=>rw[hb]at h;exact dG _ h
  |true=>
   rw[hb]at h
   simp only[cond_true]at h
   split at h
   ·trivial
   ·exact dG _ h
 ·exact dG _ h
theorem zEE(a:AV)(h:a.frzK.fine wH):a.fine wH:=by
 unfold AV.frzK at h
 split at h
 ·rename_i es n o
  cases hb:o.nlB with
  |false=>rw[hb]at h;exact h
  |true=>
   rw[hb]at h
   simp only[cond_true]at h
   split at h
   ·trivial
   ·exact h
 ·exact AV.unfrz_any _ h
theorem C1:∀l:List AV,AV.fineL wH (l.map AV.frzK)->AV.fineL wH l
 | [],_=>trivial
 |a::l,h=>⟨zEE a h.1,C1 l h.2⟩
theorem Blk.fine_any{p:Nat->Prop}{X:Blk}(h:X.fine p):X.fine wH:=by
 cases X with
 |cells cs=>exact AV.fine_anyL cs h
 |obj o=>trivial
 |row cs=>exact h
 |dead=>trivial
theorem Blk.unfz_any{k:Bool}{X:Blk}(h:(X.fzB k).fine wH):X.fine wH:=by
 cases X with
 |cells cs=>
  cases k with
  |true=>exact C1 cs h
  |false=>exact AV.unfrz_anyL cs h
 |obj o=>trivial
 |row cs=>exact h
 |dead=>trivial
theorem Blk.unren_any{r:Nat->Nat}{f:Nat->Option Nat}{X:Blk}(h:(X.ren r f).fine wH):X.fine wH:=by
 cases X with
 |cells cs=>exact AV.unren_anyL cs h
 |obj o=>trivial
 |row cs=>exact h
 |dead=>trivial
def Blk.ptB(keep:List Nat):Blk->Bool
 | .cells cs=>AV.ptBL keep cs
 |_=>true
theorem Blk.pt_fine{keep:List Nat}{X:Blk}(h:X.ptB keep=true)(k:X.fine wH):X.fine (fun i=>i∈keep):=by
 cases X with
 |cells cs=>exact AV.pt_fineL cs h k
 |obj o=>trivial
 |row cs=>exact k
 |dead=>trivial
def C2(keep:List Nat)(s:LSt):List Nat->Bool
 | []=>true
 |i::l=>((look s.H i).getD (.cells [])).ptB keep&&C2 keep s l
theorem O1{keep:List Nat}{s:LSt}:∀l:List Nat,C2 keep s l=true->(∀i∈l,((look s.H i).getD (.cells [])).fine wH)->pA keep s l
 | [],_,_=>trivial
 |i::l,h,k=>by
  simp only[C2,Bool.and_eq_true]at h
  exact⟨Blk.pt_fine h.1 (k i (List.mem_cons_self ..)),O1 l h.2 fun j hj=>k j (List.mem_cons_of_mem _ hj)⟩
def zKl(keep live:List Nat):List AV->Nat->Bool
 | [],_=>true
 |a::l,t=>(bif tQ live t then a.ptB keep else true)&&zKl keep live l (t+1)
theorem zGh{keep ks live:List Nat}{j:Nat->Value}:∀(env:List AV) (t:Nat),zKl keep live env t=true->AV.fineL wH (reEnv keep ks live j env t)->lO keep live env t
 | [],_,_,_=>trivial
 |a::l,t,h,k=>by
  simp only[zKl,Bool.and_eq_true]at h
  simp only[reEnv,AV.fineL]at k
  refine⟨?_,zGh l (t+1) h.2 k.2⟩
  cases hm:tQ live t with
  |false=>trivial
  |true=>
   have h1:=h.1
   have k1:=k.1
   rw[hm]at h1 k1
   exact AV.pt_fine a h1 (AV.unren_any a k1)
theorem O2{H:List (Nat×Blk)}{keep ks:List Nat}:∀(l:List Nat) (j:Nat),(∀p∈qF H keep ks l j,p.2.fine wH)->∀i∈l,((look H i).getD (.cells [])).fine wH
 | [],_,_,_,h=>nomatch h
 |i::l,j,h,k,hk=>by
  rcases List.mem_cons.1 hk with rfl|hk
  ·exact Blk.unren_any (h _ (List.mem_cons_self ..))
  ·exact O2 l (j+1) (fun p hp=>h p (List.mem_cons_of_mem _ hp)) k hk
theorem O3{H:List (Nat×Blk)}{keep ks:List Nat}:∀(l:List Nat) (j m:Nat),m=l.length->(∀t,t<m->(look (qF H keep ks keep 0) (j+t))=(l[t]?).map fun i=>((look H i).getD (.cells [])).ren (vH keep) (place ks))->(∀X∈vL (qF H keep ks keep 0) j m,X.fine wH)->∀i∈l,((look H i).getD (.cells [])).fine wH
 | [],_,_,_,_,_,_,h=>nomatch h
 |i::l,j,m,hm,hl,h,k,hk=>by
  subst hm
  simp only[List.length_cons,vL]at h
  rcases List.mem_cons.1 hk with rfl|hk
  ·have h0:=h _ (List.mem_cons_self ..)
   have:=hl 0 (by simp)
   simp only[Nat.add_zero,List.getElem?_cons_zero,Option.map_some]at this
   rw[this]at h0
   exact Blk.unren_any h0
  ·refine O3 l (j+1) l.length rfl (fun t ht=>?_) (fun X hX=>h X (List.mem_cons_of_mem _ hX)) k hk
   have:=hl (t+1) (by simpa using ht)
   rw[show j+1+t=j+(t+1) by omega,this];simp
def eL(P:Program)(pr:FuncId->List AV->LSt->Option LA)(na:Nat)(fn:Func)(n:Nat)(m:Md)(fs:List Fr)(env:List AV)(s:LSt)(os:List Orc)(rs:List (Option Nat×Nat×Nat))(keep ks:List Nat)(own:Bool):Option (AV×List Blk×List Ob):=
 match sV P pr n m fs env s os with
 |some (.fin x,env1,s1,[],ob)=>
  match x with
  | .exit _=>none
  |_=>
   match restamps rs env1 s1 with
   |none=>none
   |some (env',s')=>
   match E5 P (look s'.H) env' fn.results.toList with
   |some r=>bif reB na keep ks s'&&(C2 keep s' keep&&r.ptB keep)then
     some (bif own then frzN keep (r.ren (vH keep) (place ks))else(r.ren (vH keep) (place ks)).frz,(vL (pP keep ks s').H 0 keep.length).map (Blk.fzB own),ob)
    else none
   |none=>none
 |_=>none
theorem zBW{P:Program}{pr:FuncId->List AV->LSt->Option LA}(hp:tK P pr)(hm:P.follows .mixedOrders=true){na:Nb}{fn:Func}{n:Nat}{m:Md}{fs:List Fr}{env:List AV}{s:LSt}{os:List Orc}{rs:List (Option Nat×Nat×Nat)}{keep ks:List Nat}{own:Bool}{res:AV}{H1:List Blk}{nst:Nat}{ob:List Ob}
  (h:eL P pr na.n fn n m fs env s os rs keep ks own=some (res,H1,ob)) (hob:yB P ob) (hn:nst≤ks.length) (fr:res.fine wH) (fb:∀X∈H1,X.fine wH):Z1 P na (lP P na fn res H1 nst) fs env s m:=by
 unfold eL at h
 split at h
 ·rename_i x env1 s1 ob' hr
  have key:(x = .normal∨x = .ret)∧∃env' s',restamps rs env1 s1=some (env',s')∧∃r,E5 P (look s'.H) env' fn.results.toList=some r∧(bif reB na.n keep ks s'&&(C2 keep s' keep&&r.ptB keep)then
     some (bif own then frzN keep (r.ren (vH keep) (place ks))else(r.ren (vH keep) (place ks)).frz,(vL (pP keep ks s').H 0 keep.length).map (Blk.fzB own),ob')
    else none)=some (res,H1,ob):=by
   cases x with
   |exit i=>cases h
   |normal=>
    simp only at h
    split at h
    ·cases h
    rename_i env' s' hrs
    split at h
    ·rename_i r hr;exact⟨.inl rfl,env',s',hrs,r,hr,h⟩
    ·cases h
   |ret=>
    simp only at h
    split at h
    ·cases h
    rename_i env' s' hrs
    split at h
    ·rename_i r hr;exact⟨.inr rfl,env',s',hrs,r,hr,h⟩
    ·cases h
  obtain⟨hx,env',s',hrs,r,hres,h⟩:=key
  cases hb:reB na.n keep ks s'&&(C2 keep s' keep&&r.ptB keep)with
  |false=>rw[hb]at h;cases h
  |true=>
   rw[hb]at h
   simp only[cond_true,Option.some.injEq,Prod.mk.injEq]at h
   obtain⟨e1,rfl,rfl⟩:=h
   simp only[Bool.and_eq_true]at hb
   obtain⟨b1,b2,b3⟩:=hb
   have hfr:r.fine wH:=by
    subst e1
    cases own with
    |true=>exact AV.unren_any _ (zED _ fr)
    |false=>exact AV.unren_any _ (AV.unfrz_any _ fr)
   have hfb:∀i∈keep,((look s'.H i).getD (.cells [])).fine wH:=by
    refine O3 (keep:=keep) (ks:=ks) keep 0 keep.length rfl (fun t ht=>?_) fun X hX=>Blk.unfz_any (fb _ (List.mem_map_of_mem hX))
    rw[qZ];simp
   refine qS hp hm _ _ _ _ _ _ _ _ _ _ _ hr hob ⟨hx,rs,env',s',hrs,r,keep,ks,hres,b1,O1 _ b2 hfb,AV.pt_fine _ b3 hfr,fun G w u hu=>?_,⟨own,rfl⟩,hn⟩
   subst e1
   cases own with
   |true=>exact V.frzN hu
   |false=>exact V.frz _ _ hu
 ·cases h
def dH(P:Program)(pr:FuncId->List AV->LSt->Option LA)(na n:Nat)(m:Md)(fs:List Fr)(env:List AV)(s:LSt)(os:List Orc)(rs:List (Option Nat×Nat×Nat))(keep ks live:List Nat)(j:Nat->Value):Option (Code×List Fr×List AV×LSt×List Ob):=
 match sV P pr n m fs env s os with
 |some (.head c fs',env1,s1,[],ob)=>
  match restamps rs env1 s1 with
  |none=>none
  |some (env',s')=>
  bif reB na keep ks s'&&(C2 keep s' keep&&zKl keep live env' 0)then
   some (c,fs',reEnv keep ks live j env' 0,pP keep ks s',ob)
  else none
 |_=>none
theorem Z8{P:Program}{pr:FuncId->List AV->LSt->Option LA}(hp:tK P pr)(hm:P.follows .mixedOrders=true){na:Nb}{Q:AX->List AV->LSt->Prop}{n:Nat}{m:Md}{fs fs':List Fr}{env:List AV}{E:(Nat->Value)->List AV}{s S:LSt}{os:List Orc}{rs:List (Option Nat×Nat×Nat)}{keep ks live:List Nat}{c:Code}{ob:List Ob}
  (h:∀j,dH P pr na.n n m fs env s os rs keep ks live j=some (c,fs',E j,S,ob)) (hob:yB P ob) (fe:∀j,AV.fineL wH (E j)) (fb:∀p∈S.H,p.2.fine wH) (hk:∀j,Dl P na c (E j) S (wD P na Q fs')):Z1 P na Q fs env s m:=by
 have h0:=h fun _=>undef
 unfold dH at h0
 split at h0
 ·rename_i c' fs1 env1 s1 ob' hr
  split at h0
  ·cases h0
  rename_i env' s' hrs
  cases hb:reB na.n keep ks s'&&(C2 keep s' keep&&zKl keep live env' 0)with
  |false=>rw[hb]at h0;cases h0
  |true=>
   rw[hb]at h0
   simp only[cond_true,Option.some.injEq,Prod.mk.injEq]at h0
   obtain⟨rfl,rfl,e0,rfl,rfl⟩:=h0
   have hb':=hb
   simp only[Bool.and_eq_true]at hb'
   obtain⟨b1,b2,b3⟩:=hb'
   refine qS hp hm _ _ _ _ _ _ _ _ _ _ _ hr hob ?_
   refine Dl.restamps hrs ?_
   refine Dl.re keep ks live b1 (O1 _ b2 (O2 keep 0 fb)) (zGh _ _ b3 (by rw[e0];exact fe _)) fun j=>?_
   have hj:=h j
   unfold dH at hj
   rw[hr]at hj
   simp only[hrs,hb,cond_true,Option.some.injEq,Prod.mk.injEq]at hj
   rw[hj.2.2.1]
   exact hk j
 ·cases h0
theorem cO(j:Nat->Value):∀(n i:Nat) (l:List (Nat×AV)),(∀p∈l,p.2.fine wH)->AV.fineL wH (sp j n i l)
 |0,_,_,_=>trivial
 |n+1,i,[],_=>⟨trivial,cO j n (i+1) [] (fun _ h=>nomatch h)⟩
 |n+1,i,(m,a)::l,h=>by
  rw[sp]
  cases Nat.beq m i with
  |true=>exact⟨h _ (List.mem_cons_self ..),cO j n (i+1) l fun p hp=>h p (List.mem_cons_of_mem _ hp)⟩
  |false=>exact⟨trivial,cO j n (i+1) _ h⟩
class Cd {α:Type} (c:α->List AV):Prop where
 data:∀x,AV.DataL (c x)
theorem Cd.d{α:Type}{c:α->List AV}[Cd c](l:List α):AV.DataL (zD c l):=vF Cd.data l
instance:Cd zA:=⟨qH.data⟩
instance:Cd tmL:=⟨fun t=>by rw[←xH];exact qH.data t⟩
instance:Cd zM:=⟨mC.data⟩
instance:Cd u8C:=⟨M5.data⟩
instance:Cd yU:=⟨M6.data⟩
instance:Cd zI:=⟨aE.data⟩
instance:Cd kX:=⟨zAt.data⟩
instance:Cd xX:=⟨zAs.data⟩
def Rn(P:Program){ρ:Type}(T:ρ->Prop)(os:List Orc)(ob:List Ob)(o:Option ρ):Prop:=∀r,o=some r->OL P os ob->T r
theorem oR{α β:Type}{p:α ⊕ β->Prop}(h:∀a,p (.inl a))(k:∀b,p (.inr b)):∀x,p x
 | .inl a=>h a
 | .inr b=>k b
def Cs(P:Program){ρ:Type}(o:Option ρ)(f:FuncId)(H0:List Blk)(args:List AV)(res:ρ->AV)(H1:ρ->List Blk)(nst:Nat):Prop:=∀r,o=some r->CT P f H0 args (res r) (H1 r) nst
def Ls(P:Program){ρ:Type}(o:Option ρ)(na:Nb)(fn:Func)(c:Code)(E:(Nat->Value)->List AV)(S:LSt)(res:ρ->AV)(H1:ρ->List Blk)(nst:Nat)(fs:List Fr):Prop:=∀r,o=some r->∀j,Dl P na c (E j) S (wD P na (lP P na fn (res r) (H1 r) nst) fs)
theorem cN{P:Program}{ρ:Type}{f:FuncId}{H0:List Blk}{args:List AV}{res:ρ->AV}{H1:ρ->List Blk}{nst:Nat}:Cs P none f H0 args res H1 nst:=fun _ h=>nomatch h
theorem lN{P:Program}{ρ:Type}{na:Nb}{fn:Func}{c:Code}{E:(Nat->Value)->List AV}{S:LSt}{res:ρ->AV}{H1:ρ->List Blk}{nst:Nat}{fs:List Fr}:Ls P none na fn c E S res H1 nst fs:=fun _ h=>nomatch h
section
variable {P:Program} {ρ α:Type} {T:ρ->Prop} {os:List Orc} {ob:List Ob}
theorem rN:Rn P T os ob none:=fun _ h=>nomatch h
theorem rH{o:Option α}{f:α->Option ρ}(k:∀a,o=some a->Rn P T os ob (f a)):Rn P T os ob (o>>=f):=fun r h q=>by
 obtain⟨a,h1,h2⟩:=oO h
 exact k a h1 r h2 q
theorem rI{c:Bool}{x y:Option ρ}(k1:c=true->Rn P T os ob x)(k2:c=false->Rn P T os ob y):Rn P T os ob (if c=true then x else y):=fun r h q=>by
 rcases spl h with⟨h1,h⟩|⟨h1,h⟩
 ·exact k1 h1 r h q
 ·exact k2 h1 r h q
theorem rS{os':List Orc}{ob':List Ob}{o:Option ρ}(w:OL P os ob->OL P os' ob')(k:Rn P T os' ob' o):Rn P T os ob o:=fun r h q=>k r h (w q)
theorem rW{o:Option α}{f:α->Option ρ}{os':α->List Orc}{ob':α->List Ob}(w:∀ {a},o=some a->OL P os ob->OL P (os' a) (ob' a))(k:∀a,Rn P T (os' a) (ob' a) (f a)):Rn P T os ob (o>>=f):=rH fun a h=>rS (w h) (k a)
theorem rA{o:Option α}{f:α->Option ρ}{X:Option AV}{c:α->AV}(n:Nat)(w:∀ {a},o=some a->X=some (c a))(k:∀a,Rn P T (.av (c a)::(nos n++os)) (.av X (c a)::ob) (f a)):Rn P T os ob (o>>=f):=rH fun a h=>rS (oA n (w h)) (k a)
theorem rC{o:Option α}{g:α->Option ρ}{f:FuncId}{H0:List Blk}{args:List AV}{res:α->AV}{H1:α->List Blk}{nst:Nat}(n:Nat)(ι:List Nat)(w:Cs P o f H0 args res H1 nst)(k:∀a,Rn P T (.call ι (H1 a) nst (res a) none::(nos n++os)) (.call f H0 args (res a) (H1 a) nst::ob) (g a)):Rn P T os ob (o>>=g):=rH fun a h=>rS (oC n ι (w a h)) (k a)
theorem rB{c:Bool}{x y:Option ρ}(n:Nat)(k1:Rn P T (.bit true::(nos n++os)) (.bit c true::ob) x)(k2:Rn P T (.bit false::(nos n++os)) (.bit c false::ob) y):Rn P T os ob (if c=true then x else y):=rI (fun h=>rS (oB n h) k1) fun h=>rS (oB n h) k2
theorem rK{o:Option α}{c:α->Bool}{x y:α->Option ρ}{f:FuncId}{H0:List Blk}{args:List AV}{res:α->AV}{H1:α->List Blk}{nst:Nat}(n:Nat)(ι:List Nat)(w:Cs P o f H0 args res H1 nst)
  (k1:∀a,Rn P T (.call ι (H1 a) nst (res a) (some true)::(nos n++os)) (.call f H0 args (res a) (H1 a) nst :: .bit (c a) true::ob) (x a)) (k2:∀a,Rn P T (.call ι (H1 a) nst (res a) (some false)::(nos n++os)) (.call f H0 args (res a) (H1 a) nst :: .bit (c a) false::ob) (y a)):Rn P T os ob (o>>=fun a=>if c a=true then x a else y a):=
 rH fun a h=>rI (fun h1=>rS (oK n ι h1 (w a h)) (k1 a)) fun h1=>rS (oK n ι h1 (w a h)) (k2 a)
theorem rZ(b:Prop){o:Option ρ}(k1:b->Rn P T os ob o)(k2:¬b->Rn P T os ob o):Rn P T os ob o:=(Classical.em b).elim k1 k2
end
def fT(P:Program){ρ:Type}(f:FuncId)(fn:Func)(H0:List Blk)(args:List AV)(res:ρ->AV)(H1:ρ->List Blk)(nst:Nat)(r:ρ):Prop:=
 P.funcs[f]? = some fn->fn.body.isNone=false->((res r).fine wH∧∀X∈H1 r,X.fine wH)->vV P f H0 args (res r) (H1 r) nst
def lT(P:Program){ρ:Type}(na:Nb)(fn:Func)(res:ρ->AV)(H1:ρ->List Blk)(nst:Nat)(c:Code)(fs:List Fr)(env:List AV)(s:LSt)(r:ρ):Prop:=
 ((res r).fine wH∧∀X∈H1 r,X.fine wH)->Dl P na c env s (wD P na (lP P na fn (res r) (H1 r) nst) fs)
section
variable {P:Program} {ρ:Type} {res:ρ->AV} {H1:ρ->List Blk} {nst:Nat} {fn:Func} {o:Option ρ}
def zSS(H0:List Blk)(args:List AV)(res:ρ->AV)(H1:ρ->List Blk):Prop:=
 AV.argL (fun i=>i<H0.length) args∧(∀X∈H0,X.arg (fun i=>i<H0.length))∧∀r,(res r).fine (fun i=>i<(H1 r).length)∧∀X∈H1 r,X.fine (fun i=>i<(H1 r).length)
theorem fW{f:FuncId}{H0:List Blk}{args:List AV}(q1:P.funcs[f]? = some fn)(q2:fn.body.isNone=false)(a:zSS H0 args res H1)(k:Rn P (fT P f fn H0 args res H1 nst) [] [] o):Cs P o f H0 args res H1 nst:=fun r h=>
 ⟨k r h OL.nil q1 q2 ⟨AV.fine_any _ (a.2.2 r).1,fun X hX=>Blk.fine_any ((a.2.2 r).2 X hX)⟩,a.1,a.2.1,(a.2.2 r).1,(a.2.2 r).2⟩
theorem lW{na:Nb}{c:Code}{fs:List Fr}{E:(Nat->Value)->List AV}{s:LSt}(a:∀r,(res r).fine wH∧∀X∈H1 r,X.fine wH)(k:∀j,Rn P (lT P na fn res H1 nst c fs (E j) s) [] [] o):Ls P o na fn c E s res H1 nst fs:=
 fun r h j=>k j r h OL.nil (a r)
variable {pr:FuncId->List AV->LSt->Option LA} (hp:tK P pr) (hm:P.follows .mixedOrders=true) {os:List Orc} {ob:List Ob} {x:ρ}
include hp hm
theorem zQU{f:FuncId}{H0:List Blk}{args:List AV}(m:Nat)(rs:List (Option Nat×Nat×Nat))(keep ks:List Nat)(own:Bool)
  (h:eL P pr H0.length fn 3000 (.run (bod fn)) [] (args++List.replicate (fn.ntmps-args.length) (.val undef)) (st0 H0) ((nos m++os).reverseAux []) rs keep ks own=some (res x,H1 x,ob.reverseAux [])) (hn:nst≤ks.length):Rn P (fT P f fn H0 args res H1 nst) os ob (some x):=by
 intro r e q q1 q2 a
 cases e
 exact vV.body q1 q2 (zBW (na:=(H0.length:Nb)) (m:=.run (bod fn)) (fs:=[]) hp hm h (yB.rev _ _ q.ok trivial) hn a.1 a.2)
theorem zST{f:FuncId}{H0:List Blk}{args:List AV}(m:Nat)(rs:List (Option Nat×Nat×Nat))(keep ks live:List Nat){c:Code}{fs':List Fr}{E:(Nat->Value)->List AV}{S:LSt}(hk:Ls P o H0.length fn c E S res H1 nst fs')
  (h:∀j,dH P pr H0.length 3000 (.run (bod fn)) [] (args++List.replicate (fn.ntmps-args.length) (.val undef)) (st0 H0) ((nos m++os).reverseAux []) rs keep ks live j=some (c,fs',E j,S,ob.reverseAux [])) (fe:∀j,AV.fineL wH (E j)) (fb:∀p∈S.H,p.2.fine wH):Rn P (fT P f fn H0 args res H1 nst) os ob o:=by
 intro r e q q1 q2 _
 exact vV.body q1 q2 (Z8 (na:=(H0.length:Nb)) (m:=.run (bod fn)) (fs:=[]) hp hm h (yB.rev _ _ q.ok trivial) fe fb (hk r e))
variable {na:Nb} {c:Code} {fs:List Fr} {env:List AV} {s:LSt}
theorem lFin(m:Nat)(rs:List (Option Nat×Nat×Nat))(keep ks:List Nat)(own:Bool)
  (h:eL P pr na.n fn 3000 (.run c) (.loop c::fs) env s ((nos m++os).reverseAux []) rs keep ks own=some (res x,H1 x,ob.reverseAux [])) (hn:nst≤ks.length):Rn P (lT P na fn res H1 nst c fs env s) os ob (some x):=by
 intro r e q a
 cases e
 exact Dl.step (zBW hp hm (m:=.run c) (fs:=.loop c::fs) h (yB.rev _ _ q.ok trivial) hn a.1 a.2)
theorem lHead(m:Nat)(rs:List (Option Nat×Nat×Nat))(keep ks live:List Nat){c':Code}{fs':List Fr}{E:(Nat->Value)->List AV}{S:LSt}(hk:Ls P o na fn c' E S res H1 nst fs')
  (h:∀j,dH P pr na.n 3000 (.run c) (.loop c::fs) env s ((nos m++os).reverseAux []) rs keep ks live j=some (c',fs',E j,S,ob.reverseAux [])) (fe:∀j,AV.fineL wH (E j)) (fb:∀p∈S.H,p.2.fine wH):Rn P (lT P na fn res H1 nst c fs env s) os ob o:=by
 intro r e q _
 exact Dl.step (Z8 hp hm (m:=.run c) (fs:=.loop c::fs) h (yB.rev _ _ q.ok trivial) fe fb (hk r e))
end
end Go.Ab
set_option linter.unusedSimpArgs false
namespace Go.Ab
open Go Go.RowKit
def slC{α:Type}(c:α->List AV)(l:List α):List AV:=[.sl (zD c l) l.length .no]
theorem zSU{α:Type}{c:α->List AV}{n:Nat}(h:wZ c n):wZ (slC c) 1:=⟨fun _=>rfl,fun l=>⟨⟨trivial,vF h.data l⟩,trivial⟩,fun _=>rfl⟩
instance {α:Type} {c:α->List AV} [h:Cd c]:Cd (slC c):=⟨fun x=>⟨⟨trivial,vF h.data x⟩,trivial⟩⟩
theorem yV{P:Program}{α:Type}{C L:α->List AV}(he:∀t,C t=L t)(l:List α):Ob.ok P (.cells (zD L l) (zD C l) l.length l.length):=⟨by rw[show L=C from funext fun t=>(he t).symm],rfl⟩
inductive zC where
 |mk (kind_:Int) (at_:Int) (name_:ByteArray) (n_:Int) (sub_:List zC)
def zC.kind_:zC->Int | .mk x _ _ _ _=>x
def zC.at_:zC->Int | .mk _ x _ _ _=>x
def zC.name_:zC->ByteArray | .mk _ _ x _ _=>x
def zC.n_:zC->Int | .mk _ _ _ x _=>x
def zC.sub_:zC->List zC | .mk _ _ _ _ x=>x
instance:Inhabited zC:=⟨.mk default default ⟨#[]⟩ default default⟩
mutual
def zH:zC->List AV
 | .mk kind_ at_ name_ n_ sub_=>[ai kind_,ai at_,at' name_,ai n_,.sl (qJ sub_) sub_.length .no]
def qJ:List zC->List AV
 | []=>[]
 |t::l=>zH t++qJ l
end
theorem jT:∀l:List zC,qJ l=zD zH l
 | []=>rfl
 |t::l=>by simp only[qJ,jT l,zD,List.flatMap_cons]
def iY(x:zC):List AV:=[ai x.kind_,ai x.at_,at' x.name_,ai x.n_,slv zH x.sub_ .no]
theorem vD(x:zC):zH x=iY x:=by
 cases x;simp only[zH,iY,zC.kind_,zC.at_,zC.name_,zC.n_,zC.sub_,jT,List.cons_append,List.nil_append]
def yQ(x:zC):AV:=.agg (iY x)
mutual
theorem eM:∀t:zC,AV.DataL (zH t)
 | .mk kind_ at_ name_ n_ sub_=>by rw[zH];exact⟨trivial,trivial,trivial,trivial,⟨trivial,jU sub_⟩,trivial⟩
theorem jU:∀l:List zC,AV.DataL (qJ l)
 | []=>trivial
 |t::l=>by rw[qJ];exact pS (eM t) (jU l)
end
theorem qT:wZ zH 5:=⟨fun x=>by rw[vD];rfl,eM,fun x=>by rw[vD];rfl⟩
instance:Cd zH:=⟨qT.data⟩
theorem iZ(l:List zC):AV.DataL (zD zH l):=vF qT.data l
structure zP where
 name_:ByteArray
 at_:Int
 type_:zC
instance:Inhabited zP:=⟨⟨⟨#[]⟩,default,default⟩⟩
def zB(x:zP):List AV:=[at' x.name_,ai x.at_,ai x.type_.kind_,ai x.type_.at_,at' x.type_.name_,ai x.type_.n_,slv zH x.type_.sub_ .no]
def aH(x:zP):AV:=.agg (zB x)
theorem tU:wZ zB 7:=⟨fun _=>rfl,fun _=>⟨trivial,trivial,trivial,trivial,trivial,trivial,⟨trivial,iZ _⟩,trivial⟩,fun _=>rfl⟩
instance:Cd zB:=⟨tU.data⟩
theorem Z9(l:List zP):AV.DataL (zD zB l):=vF tU.data l
structure yT where
 at_:Int
 pats_:List zC
 has_:Bool
 body_:zC
instance:Inhabited yT:=⟨⟨default,default,default,default⟩⟩
def zO(x:yT):List AV:=[ai x.at_,slv zH x.pats_ .no,ab x.has_,ai x.body_.kind_,ai x.body_.at_,at' x.body_.name_,ai x.body_.n_,slv zH x.body_.sub_ .no]
def zBX(x:yT):AV:=.agg (zO x)
theorem pT:wZ zO 8:=⟨fun _=>rfl,fun _=>⟨trivial,⟨trivial,iZ _⟩,trivial,trivial,trivial,trivial,trivial,⟨trivial,iZ _⟩,trivial⟩,fun _=>rfl⟩
instance:Cd zO:=⟨pT.data⟩
theorem zKk(l:List yT):AV.DataL (zD zO l):=vF pT.data l
structure yJ where
 kind_:Int
 at_:Int
 name_:ByteArray
 tele_:List zP
 type_:zC
 cons_:List zP
 rows_:List yT
instance:Inhabited yJ:=⟨⟨default,default,⟨#[]⟩,default,default,default,default⟩⟩
def vQ(x:yJ):List AV:=[ai x.kind_,ai x.at_,at' x.name_,slv zB x.tele_ .no,ai x.type_.kind_,ai x.type_.at_,at' x.type_.name_,ai x.type_.n_,slv zH x.type_.sub_ .no,slv zB x.cons_ .no,slv zO x.rows_ .no]
def aI(x:yJ):AV:=.agg (vQ x)
theorem mD:wZ vQ 11:=⟨fun _=>rfl,fun _=>⟨trivial,trivial,trivial,⟨trivial,Z9 _⟩,trivial,trivial,trivial,trivial,⟨trivial,iZ _⟩,⟨trivial,Z9 _⟩,⟨trivial,zKk _⟩,trivial⟩,fun _=>rfl⟩
instance:Cd vQ:=⟨mD.data⟩
structure zJ where
 kind_:Int
 text_:ByteArray
 at_:Int
instance:Inhabited zJ:=⟨⟨default,⟨#[]⟩,default⟩⟩
def zF(x:zJ):List AV:=[ai x.kind_,at' x.text_,ai x.at_]
def C3(x:zJ):AV:=.agg (zF x)
theorem pK:wZ zF 3:=⟨fun _=>rfl,fun _=>⟨trivial,trivial,trivial,trivial⟩,fun _=>rfl⟩
instance:Cd zF:=⟨pK.data⟩
structure zBY where
 l_:List zJ
 i_:Int
 at_:Int
 bad_:Int
instance:Inhabited zBY:=⟨⟨default,default,default,default⟩⟩
structure zIz where
 l_:List Ent
 parts_:List xN
instance:Inhabited zIz:=⟨⟨default,default⟩⟩
structure zBZ where
 signs_:List Int
 at_:List Int
 i_:Int
instance:Inhabited zBZ:=⟨⟨default,default,default⟩⟩
structure zCz where
 l_:List Ent
 e_:Int
 at_:Int
instance:Inhabited zCz:=⟨⟨default,default,default⟩⟩
structure zIy where
 e_:Int
instance:Inhabited zIy:=⟨⟨default⟩⟩
end Go.Ab
namespace Go.Proofs.YthncchbcdpbgaaaGreat
open Go Go.Ab
theorem O4(b:Bool):b=true∨b=false:=by cases b<;>simp
theorem wX{α:Type}{p:α->Prop}:∀x∈([]:List α),p x:=fun _ h=>nomatch h
theorem uE{α:Type}{p:α->Prop}{a:α}{l:List α}(h:p a)(k:∀x∈l,p x):∀x∈a::l,p x:=by
 intro x hx
 rcases List.mem_cons.1 hx with rfl|hx
 ·exact h
 ·exact k x hx
instance:Cd entZ:=⟨zAl.data⟩
theorem o0:OL Tryz.prog [] []:=OL.nil
abbrev mB (M:xO) (i:Nat):Blk:=.cells [slv zI M.l .no,.mp i 0,slv zM M.args .no,slv zM M.own .no]
abbrev mR (M:xO):Blk:=.cells [slv zI M.rl .no,slv xX M.parts .no]
theorem tv:True:=trivial
theorem lz{a b:Nat}(h:Nat.ble (a+1) b=true):a<b:=Nat.le_of_ble_eq_true h
abbrev Ct:=CT Tryz.prog
abbrev Cz {ρ:Type}:=@Cs Tryz.prog ρ
abbrev Lz {ρ:Type}:=@Ls Tryz.prog ρ
abbrev Ci:=vV Tryz.prog
abbrev Cf:=FuncId->List Blk->List AV->AV->List Blk->Nat->Prop
abbrev Qf (f:FuncId) (fn:Func):Prop:=Tryz.prog.funcs[f]? = some fn∧fn.body.isNone=false
theorem yW{p:Nat->Prop}(z:p 0)(s:∀n,p n->p (n+1)):∀n,p n:=fun n=>Nat.rec z s n
section
variable {ρ:Type} {res:ρ->AV} {H1:ρ->List Blk} {nst:Nat} {fn:Func} {o:Option ρ} {r x:ρ} {f:FuncId} {H0:List Blk} {args:List AV} {os:List Orc} {ob:List Ob}
theorem fw(q1:Tryz.prog.funcs[f]? = some fn)(k:Rn Tryz.prog (fT Tryz.prog f fn H0 args res H1 nst) [] [] o)(q2:fn.body.isNone=false:=by kernel_rfl)(a:zSS H0 args res H1:=by(repeat' first|exact Cd.d _|exact trivial|exact lz rfl|exact wX|refine And.intro ?_ ?_|refine uE ?_ ?_|refine oR ?_ ?_|intro _)):Cs Tryz.prog o f H0 args res H1 nst:=fW q1 q2 a k
theorem fG(m:Nat)(rs:List (Option Nat×Nat×Nat))(keep ks:List Nat)(own:Bool)(h:eL Tryz.prog uW H0.length fn 3000 (.run (bod fn)) [] (args++List.replicate (fn.ntmps-args.length) (.val undef)) (st0 H0) ((nos m++os).reverseAux []) rs keep ks own=some (res x,H1 x,ob.reverseAux []):=by kernel_rfl)(hn:nst≤ks.length:=by decide):Rn Tryz.prog (fT Tryz.prog f fn H0 args res H1 nst) os ob (some x):=zQU xI mixed m rs keep ks own h hn
theorem fF(m:Nat)(keep:List Nat)(h:eL Tryz.prog uW H0.length fn 3000 (.run (bod fn)) [] (args++List.replicate (fn.ntmps-args.length) (.val undef)) (st0 H0) ((nos m++os).reverseAux []) [] keep [] false=some (res x,H1 x,ob.reverseAux []):=by kernel_rfl):Rn Tryz.prog (fT Tryz.prog f fn H0 args res H1 0) os ob (some x):=zQU xI mixed m [] keep [] false h (Nat.le_refl _)
theorem fE(m:Nat)(h:eL Tryz.prog uW H0.length fn 3000 (.run (bod fn)) [] (args++List.replicate (fn.ntmps-args.length) (.val undef)) (st0 H0) ((nos m++os).reverseAux []) [] (range' 0 H0.length) [] false=some (res x,H1 x,ob.reverseAux []):=by kernel_rfl):Rn Tryz.prog (fT Tryz.prog f fn H0 args res H1 0) os ob (some x):=zQU xI mixed m [] _ [] false h (Nat.le_refl _)
theorem fH(m:Nat)(rs:List (Option Nat×Nat×Nat))(keep ks live:List Nat){c:Code}{fs':List Fr}{E:(Nat->Value)->List AV}{S:LSt}(hk:Ls Tryz.prog o H0.length fn c E S res H1 nst fs')(h:∀j,dH Tryz.prog uW H0.length 3000 (.run (bod fn)) [] (args++List.replicate (fn.ntmps-args.length) (.val undef)) (st0 H0) ((nos m++os).reverseAux []) rs keep ks live j=some (c,fs',E j,S,ob.reverseAux []):=by intro j;kernel_rfl)(fe:∀j,AV.fineL wH (E j):=by intro j;refine cO _ _ _ _ ?_;(repeat' first|exact Cd.d _|exact trivial|exact lz rfl|exact wX|refine And.intro ?_ ?_|refine uE ?_ ?_|refine oR ?_ ?_|intro _))(fb:∀p∈S.H,p.2.fine wH:=by(repeat' first|exact Cd.d _|exact trivial|exact lz rfl|exact wX|refine And.intro ?_ ?_|refine uE ?_ ?_|refine oR ?_ ?_|intro _)):Rn Tryz.prog (fT Tryz.prog f fn H0 args res H1 nst) os ob o:=zST xI mixed m rs keep ks live hk h fe fb
variable {na:Nb} {c:Code} {fs:List Fr} {env:List AV} {s:LSt}
theorem lw{E:(Nat->Value)->List AV}(k:∀j,Rn Tryz.prog (lT Tryz.prog na fn res H1 nst c fs (E j) s) [] [] o)(a:∀r,(res r).fine wH∧∀X∈H1 r,X.fine wH:=by(repeat' first|exact Cd.d _|exact trivial|exact lz rfl|exact wX|refine And.intro ?_ ?_|refine uE ?_ ?_|refine oR ?_ ?_|intro _)):Ls Tryz.prog o na fn c E s res H1 nst fs:=lW a k
theorem lG(m:Nat)(rs:List (Option Nat×Nat×Nat))(keep ks:List Nat)(own:Bool)(h:eL Tryz.prog uW na.n fn 3000 (.run c) (.loop c::fs) env s ((nos m++os).reverseAux []) rs keep ks own=some (res x,H1 x,ob.reverseAux []):=by kernel_rfl)(hn:nst≤ks.length:=by decide):Rn Tryz.prog (lT Tryz.prog na fn res H1 nst c fs env s) os ob (some x):=lFin xI mixed m rs keep ks own h hn
theorem lF(m:Nat)(keep:List Nat)(h:eL Tryz.prog uW na.n fn 3000 (.run c) (.loop c::fs) env s ((nos m++os).reverseAux []) [] keep [] false=some (res x,H1 x,ob.reverseAux []):=by kernel_rfl):Rn Tryz.prog (lT Tryz.prog na fn res H1 0 c fs env s) os ob (some x):=lFin xI mixed m [] keep [] false h (Nat.le_refl _)
theorem lE(m:Nat)(h:eL Tryz.prog uW na.n fn 3000 (.run c) (.loop c::fs) env s ((nos m++os).reverseAux []) [] (range' 0 na.n) [] false=some (res x,H1 x,ob.reverseAux []):=by kernel_rfl):Rn Tryz.prog (lT Tryz.prog na fn res H1 0 c fs env s) os ob (some x):=lFin xI mixed m [] _ [] false h (Nat.le_refl _)
theorem lH(m:Nat)(rs:List (Option Nat×Nat×Nat))(keep ks live:List Nat){c':Code}{fs':List Fr}{E:(Nat->Value)->List AV}{S:LSt}(hk:Ls Tryz.prog o na fn c' E S res H1 nst fs')(h:∀j,dH Tryz.prog uW na.n 3000 (.run c) (.loop c::fs) env s ((nos m++os).reverseAux []) rs keep ks live j=some (c',fs',E j,S,ob.reverseAux []):=by intro j;kernel_rfl)(fe:∀j,AV.fineL wH (E j):=by intro j;refine cO _ _ _ _ ?_;(repeat' first|exact Cd.d _|exact trivial|exact lz rfl|exact wX|refine And.intro ?_ ?_|refine uE ?_ ?_|refine oR ?_ ?_|intro _))(fb:∀p∈S.H,p.2.fine wH:=by(repeat' first|exact Cd.d _|exact trivial|exact lz rfl|exact wX|refine And.intro ?_ ?_|refine uE ?_ ?_|refine oR ?_ ?_|intro _)):Rn Tryz.prog (lT Tryz.prog na fn res H1 nst c fs env s) os ob o:=lHead xI mixed m rs keep ks live hk h fe fb
end
section
variable {f:FuncId} {fn:Func} {H0 H1:List Blk} {args:List AV} {res:AV} {nst:Nat} {os:List Orc} {ob:List Ob}
theorem tF(q:Qf f fn)(m:Nat)(keep:List Nat)(k:OL Tryz.prog os ob)(h:aD Tryz.prog uW H0.length fn 3000 (.run (bod fn)) [] (args++List.replicate (fn.ntmps-args.length) (.val undef)) (st0 H0) ((nos m++os).reverseAux []) [] keep [] false=some (res,H1,ob.reverseAux []):=by kernel_rfl):vV Tryz.prog f H0 args res H1 0:=OL.toFin xI mixed q m [] keep [] false k h (Nat.le_refl _)
theorem tH(q:Qf f fn)(m:Nat)(rs:List (Option Nat×Nat×Nat))(keep ks live:List Nat)(k:OL Tryz.prog os ob){c:Code}{fs':List Fr}{E:(Nat->Value)->List AV}{S:LSt}(hk:∀j,Dl Tryz.prog H0.length c (E j) S (wD Tryz.prog H0.length (lP Tryz.prog H0.length fn res H1 nst) fs'))(h:∀j,jP Tryz.prog uW H0.length 3000 (.run (bod fn)) [] (args++List.replicate (fn.ntmps-args.length) (.val undef)) (st0 H0) ((nos m++os).reverseAux []) rs keep ks live j=some (c,fs',E j,S,ob.reverseAux []):=by intro j;kernel_rfl):vV Tryz.prog f H0 args res H1 nst:=OL.toHead xI mixed q m rs keep ks live k hk h
variable {na:Nb} {Q:AX->List AV->LSt->Prop} {c c':Code} {fs fs':List Fr} {env:List AV} {s S:LSt}
theorem olH(m:Nat)(rs:List (Option Nat×Nat×Nat))(keep ks live:List Nat)(k:OL Tryz.prog os ob){E:(Nat->Value)->List AV}(hk:∀j,Dl Tryz.prog na c' (E j) S (wD Tryz.prog na Q fs'))(h:∀j,jP Tryz.prog uW na.n 3000 (.run c) (.loop c::fs) env s ((nos m++os).reverseAux []) rs keep ks live j=some (c',fs',E j,S,ob.reverseAux []):=by intro j;kernel_rfl):Dl Tryz.prog na c env s (wD Tryz.prog na Q fs):=OL.lHead xI mixed m rs keep ks live k hk h
theorem olF(m:Nat)(keep:List Nat)(k:OL Tryz.prog os ob)(h:aD Tryz.prog uW na.n fn 3000 (.run c) (.loop c::fs) env s ((nos m++os).reverseAux []) [] keep [] false=some (res,H1,ob.reverseAux []):=by kernel_rfl):Dl Tryz.prog na c env s (wD Tryz.prog na (lP Tryz.prog na fn res H1 0) fs):=OL.lFin xI mixed m [] keep [] false k h (Nat.le_refl _)
end
theorem jV:Tryz.prog.info? 33=some Tryz.t33:=by kernel_rfl
theorem dJ:Tryz.prog.info? 37=some Tryz.t37:=by kernel_rfl
theorem O5{l m r:List Ent}(h:yR 192 l m=some r)(hm:m.length=0):Ob.ok Tryz.prog (.app 23 23 (zD zI l) (zD zI m) (zD zI r) l.length m.length r.length 15 true):=mQ aE Tryz.underlying23 dJ rfl rfl rfl (by decide) rfl (by decide) h hm
theorem sJ{l m r:List Tm}(h:yR 40 l m=some r)(hm:m.length=0):Ob.ok Tryz.prog (.app 30 30 (zD zA l) (zD zA m) (zD zA r) l.length m.length r.length 3 true):=mQ qH Tryz.underlying30 jV rfl rfl rfl (by decide) rfl (by decide) h hm
theorem O6:Tryz.prog.info? 3=some Tryz.t3:=by kernel_rfl
theorem zKj{l m r:List Int}(h:yR 8 l m=some r)(hm:m.length=0):Ob.ok Tryz.prog (.app 35 35 (zD zM l) (zD zM m) (zD zM r) l.length m.length r.length 1 true):=mQ mC Tryz.underlying35 O6 rfl rfl rfl (by decide) rfl (by decide) h hm
theorem zAk:Tryz.prog.info? 169=some Tryz.t169:=by kernel_rfl
theorem zSV{l m r:List zP}(h:yR 88 l m=some r)(hm:m.length=0):Ob.ok Tryz.prog (.app 54 54 (zD zB l) (zD zB m) (zD zB r) l.length m.length r.length 7 true):=mQ tU Tryz.underlying54 zAk rfl rfl rfl (by decide) rfl (by decide) h hm
theorem zGg:Tryz.prog.info? 9=some Tryz.t9:=by kernel_rfl
theorem zSW{l m r:List ByteArray}(h:yR 16 l m=some r)(hm:m.length=0):Ob.ok Tryz.prog (.app 79 79 (zD yU l) (zD yU m) (zD yU r) l.length m.length r.length 1 true):=mQ M6 Tryz.underlying79 zGg rfl rfl rfl (by decide) rfl (by decide) h hm
theorem zSX{n:Nat}(h:n=0):Ob.ok Tryz.prog (.same 35 35 n):=zNn Tryz.underlying35 O6 h
theorem zGf:Tryz.prog.info? 108=some Tryz.t108:=by kernel_rfl
theorem zKi{l m r:List zJ}(h:yR 32 l m=some r)(hm:m.length≠0):Ob.ok Tryz.prog (.app 104 104 (zD zF l) (zD zF m) (zD zF r) l.length m.length r.length 3 false):=uM pK Tryz.underlying104 zGf rfl rfl rfl (by decide) rfl (by decide) h hm
theorem C4{l m r:List Ent}(h:yR 192 l m=some r)(hm:m.length≠0):Ob.ok Tryz.prog (.app 23 23 (zD zI l) (zD zI m) (zD zI r) l.length m.length r.length 15 false):=uM aE Tryz.underlying23 dJ rfl rfl rfl (by decide) rfl (by decide) h hm
theorem zGe:Tryz.prog.info? 259=some Tryz.t259:=by kernel_rfl
theorem zQV{l m r:List uS}(h:yR 56 l m=some r)(hm:m.length≠0):Ob.ok Tryz.prog (.app 231 231 (zD kX l) (zD kX m) (zD kX r) l.length m.length r.length 3 false):=uM zAt Tryz.underlying231 zGe rfl rfl rfl (by decide) rfl (by decide) h hm
theorem xU{l m r:List Tm}(h:yR 40 l m=some r)(hm:m.length≠0):Ob.ok Tryz.prog (.app 30 30 (zD zA l) (zD zA m) (zD zA r) l.length m.length r.length 3 false):=uM qH Tryz.underlying30 jV rfl rfl rfl (by decide) rfl (by decide) h hm
theorem nO{l m r:List Int}(h:yR 8 l m=some r)(hm:m.length≠0):Ob.ok Tryz.prog (.app 35 35 (zD zM l) (zD zM m) (zD zM r) l.length m.length r.length 1 false):=uM mC Tryz.underlying35 O6 rfl rfl rfl (by decide) rfl (by decide) h hm
theorem zKh:Tryz.prog.info? 60=some Tryz.t60:=by kernel_rfl
theorem zSY{l m r:List yJ}(h:yR 168 l m=some r)(hm:m.length≠0):Ob.ok Tryz.prog (.app 50 50 (zD vQ l) (zD vQ m) (zD vQ r) l.length m.length r.length 11 false):=uM mD Tryz.underlying50 zKh rfl rfl rfl (by decide) rfl (by decide) h hm
theorem zKg{l m r:List zP}(h:yR 88 l m=some r)(hm:m.length≠0):Ob.ok Tryz.prog (.app 54 54 (zD zB l) (zD zB m) (zD zB r) l.length m.length r.length 7 false):=uM tU Tryz.underlying54 zAk rfl rfl rfl (by decide) rfl (by decide) h hm
theorem zKf:Tryz.prog.info? 57=some Tryz.t57:=by kernel_rfl
theorem zQf{l m r:List zC}(h:yR 64 l m=some r)(hm:m.length≠0):Ob.ok Tryz.prog (.app 55 55 (zD zH l) (zD zH m) (zD zH r) l.length m.length r.length 5 false):=uM qT Tryz.underlying55 zKf rfl rfl rfl (by decide) rfl (by decide) h hm
theorem zGd:Tryz.prog.info? 165=some Tryz.t165:=by kernel_rfl
theorem zSZ{l m r:List yT}(h:yR 104 l m=some r)(hm:m.length≠0):Ob.ok Tryz.prog (.app 58 58 (zD zO l) (zD zO m) (zD zO r) l.length m.length r.length 8 false):=uM pT Tryz.underlying58 zGd rfl rfl rfl (by decide) rfl (by decide) h hm
theorem O7{l m r:List ByteArray}(h:yR 16 l m=some r)(hm:m.length≠0):Ob.ok Tryz.prog (.app 79 79 (zD yU l) (zD yU m) (zD yU r) l.length m.length r.length 1 false):=uM M6 Tryz.underlying79 zGg rfl rfl rfl (by decide) rfl (by decide) h hm
theorem zQW{l m r:List jS}(h:yR 192 l m=some r)(hm:m.length≠0):Ob.ok Tryz.prog (.app 23 23 (zD entZ l) (zD entZ m) (zD entZ r) l.length m.length r.length 15 false):=uM zAl Tryz.underlying23 dJ rfl rfl rfl (by decide) rfl (by decide) h hm
theorem zGc:Tryz.prog.info? 5=some Tryz.t5:=by kernel_rfl
theorem zKe{l r:List U8}{bs:ByteArray}(h:yR 1 l (gbs bs)=some r)(hm:(gbs bs).length≠0):Ob.ok Tryz.prog (.aps 280 9 (zD u8C l) bs (zD u8C r) l.length r.length 1 false):=zKp Tryz.underlying280 Tryz.underlying9 zGc rfl rfl rfl rfl h (by rwa[lV]at hm)
theorem zIx{l r:List U8}{bs:ByteArray}(h:yR 1 l (gbs bs)=some r)(hm:(gbs bs).length=0):Ob.ok Tryz.prog (.aps 280 9 (zD u8C l) bs (zD u8C r) l.length r.length 1 true):=zKo Tryz.underlying280 Tryz.underlying9 zGc rfl rfl rfl rfl h (by rwa[lV]at hm)
theorem zTz{m r:List Int}(h:yR 8 ([]:List Int) m=some r)(hm:m.length≠0):Ob.ok Tryz.prog (.mk (d8 Tryz.prog 35 35 (none) [] 0 none (zD zM m) m.length) (zD zM r) r.length):=zKr mC Tryz.underlying35 O6 rfl rfl rfl (by decide) rfl (by decide) h hm
theorem tM(l:List U8){o:Own}:mI Tryz.prog 280 9 (.sl (zD u8C l) l.length o)=some (at' (sZ l)):=zKx Tryz.underlying280 Tryz.underlying9 Tryz.underlying5 l
theorem zKd{n:Nat}{l:List U8}{bs:ByteArray}(h:gtx n l=some bs):Ob.ok Tryz.prog (.str (nM Tryz.prog 280 9 (zD u8C l) n) bs):=zKm Tryz.underlying280 Tryz.underlying9 Tryz.underlying5 h
theorem zQe{l:List zJ}{i:Int}{o:Own}{x:zJ}(h:zL l i=some x):xD Tryz.prog 104 (.sl (zD zF l) l.length o) (ai i)=some (.ip (zF x++zD zF (l.drop (i.toNat+1)))):=by
 have:=mP pK (k:=.i64) Tryz.underlying104 zGf rfl h (o:=o)
 exact this
theorem zAj:Tryz.prog.info? 233=some Tryz.t233:=by kernel_rfl
theorem zTy{l:List xN}{i:Int}{o:Own}{x:xN}(h:zL l i=some x):xD Tryz.prog 183 (.sl (zD xX l) l.length o) (ai i)=some (.ip (xX x++zD xX (l.drop (i.toNat+1)))):=by
 have:=mP zAs (k:=.i64) Tryz.underlying183 zAj rfl h (o:=o)
 exact this
theorem zQX:Tryz.prog.info? 23=some Tryz.t23:=by kernel_rfl
theorem zQd{l:List (List Ent)}{i:Int}{o:Own}{x:List Ent}(h:zL l i=some x):xD Tryz.prog 229 (.sl (zD (slC zI) l) l.length o) (ai i)=some (.ip ((slC zI) x++zD (slC zI) (l.drop (i.toNat+1)))):=by
 have:=mP (zSU aE) (k:=.i64) Tryz.underlying229 zQX rfl h (o:=o)
 exact this
theorem yY{l:List Ent}{i:Int}{o:Own}{x:Ent}(h:zL l i=some x):xD Tryz.prog 23 (.sl (zD zI l) l.length o) (ai i)=some (.ip (zI x++zD zI (l.drop (i.toNat+1)))):=by
 have:=mP aE (k:=.i64) Tryz.underlying23 dJ rfl h (o:=o)
 exact this
theorem zQc{l:List uS}{i:Int}{o:Own}{x:uS}(h:zL l i=some x):xD Tryz.prog 231 (.sl (zD kX l) l.length o) (ai i)=some (.ip (kX x++zD kX (l.drop (i.toNat+1)))):=by
 have:=mP zAt (k:=.i64) Tryz.underlying231 zGe rfl h (o:=o)
 exact this
theorem yM{l:List Tm}{i:Int}{o:Own}{x:Tm}(h:zL l i=some x):xD Tryz.prog 30 (.sl (zD zA l) l.length o) (ai i)=some (.ip (tmL x++zD zA (l.drop (i.toNat+1)))):=by
 have:=mP qH (k:=.i64) Tryz.underlying30 jV rfl h (o:=o)
 rw[xH]at this
 exact this
theorem pL{l:List Int}{i:Int}{o:Own}{x:Int}(h:zL l i=some x):xD Tryz.prog 35 (.sl (zD zM l) l.length o) (ai i)=some (.ip (zM x++zD zM (l.drop (i.toNat+1)))):=by
 have:=mP mC (k:=.i64) Tryz.underlying35 O6 rfl h (o:=o)
 exact this
theorem zUc{l:List yJ}{i:Int}{o:Own}{x:yJ}(h:zL l i=some x):xD Tryz.prog 50 (.sl (zD vQ l) l.length o) (ai i)=some (.ip (vQ x++zD vQ (l.drop (i.toNat+1)))):=by
 have:=mP mD (k:=.i64) Tryz.underlying50 zKh rfl h (o:=o)
 exact this
theorem zCy{l:List zP}{i:Int}{o:Own}{x:zP}(h:zL l i=some x):xD Tryz.prog 54 (.sl (zD zB l) l.length o) (ai i)=some (.ip (zB x++zD zB (l.drop (i.toNat+1)))):=by
 have:=mP tU (k:=.i64) Tryz.underlying54 zAk rfl h (o:=o)
 exact this
theorem zCx{l:List zC}{i:Int}{o:Own}{x:zC}(h:zL l i=some x):xD Tryz.prog 55 (.sl (zD zH l) l.length o) (ai i)=some (.ip (iY x++zD zH (l.drop (i.toNat+1)))):=by
 have:=mP qT (k:=.i64) Tryz.underlying55 zKf rfl h (o:=o)
 rw[vD]at this
 exact this
theorem zUb{l:List yT}{i:Int}{o:Own}{x:yT}(h:zL l i=some x):xD Tryz.prog 58 (.sl (zD zO l) l.length o) (ai i)=some (.ip (zO x++zD zO (l.drop (i.toNat+1)))):=by
 have:=mP pT (k:=.i64) Tryz.underlying58 zGd rfl h (o:=o)
 exact this
theorem zKc{l:List ByteArray}{i:Int}{o:Own}{x:ByteArray}(h:zL l i=some x):xD Tryz.prog 79 (.sl (zD yU l) l.length o) (ai i)=some (.ip (yU x++zD yU (l.drop (i.toNat+1)))):=by
 have:=mP M6 (k:=.i64) Tryz.underlying79 zGg rfl h (o:=o)
 exact this
theorem zCw{l:List Int}{i x:Int}(h:zL l i=some x)(hl:l.length=9):nX Tryz.prog 292 (.agg (zD zM l)) (ai i)=some (ai x):=zBG (k:=.i64) Tryz.underlying292 (q:=(false,1)) (by kernel_rfl) rfl hl h
theorem zKb{l:List Int}{i x:Int}(h:zL l i=some x)(hl:l.length=11):nX Tryz.prog 302 (.agg (zD zM l)) (ai i)=some (ai x):=zBG (k:=.i64) Tryz.underlying302 (q:=(false,1)) (by kernel_rfl) rfl hl h
theorem zQY{b n k c z:Nat}{i:Int}(h:X0 n i=some k):xD Tryz.prog 183 (.ms b 0 n c z) (ai i)=some (.mp b (k*3)):=zKu Tryz.underlying183 zAj rfl h
theorem zKa{b n k c z:Nat}{i:Int}(h:X0 n i=some k):xD Tryz.prog 280 (.ms b 0 n c z) (ai i)=some (.mp b (k*1)):=zKu Tryz.underlying280 zGc rfl h
theorem zEF{s:ByteArray}{i x:Int}(h:B8 s i=some x):nX Tryz.prog 9 (at' s) (ai i)=some (.val (.int .u8 x)):=zKy Tryz.underlying9 h
theorem zTx{l:List jS}{i:Int}{o:Own}{x:jS}(h:zL l i=some x):xD Tryz.prog 23 (.sl (zD entZ l) l.length o) (ai i)=some (.ip (entZ x++zD entZ (l.drop (i.toNat+1)))):=by
 have:=mP zAl (k:=.i64) Tryz.underlying23 dJ rfl h (o:=o)
 exact this
theorem zGb(m:List (ByteArray×Int))(k:ByteArray):Ob.ok Tryz.prog (.lk 181 (N6 m) (at' k) false (ai (N7 m k))):=zSP Tryz.underlying181 Tryz.underlying9 O6 rfl m k
theorem zKA{n:Int}{l:List xN}(h:gmk 72 (default:xN) n=some l):Ob.ok Tryz.prog (.mk (rF Tryz.prog 183 (ai n) (ai n)) (zD xX l) l.length):=zKv Tryz.underlying183 zAj rfl rfl rfl (by decide) rfl (by decide) (by rfl) h
theorem zQZ{n:Int}{l:List U8}(h:gmk 1 (default:U8) n=some l):Ob.ok Tryz.prog (.mk (rF Tryz.prog 280 (ai n) (ai n)) (zD u8C l) l.length):=zKv Tryz.underlying280 zGc rfl rfl rfl (by decide) rfl (by decide) (by rfl) h
theorem zQb(m:List (ByteArray×Int))(k:ByteArray)(v:Int):Ob.ok Tryz.prog (.mu 181 (N6 m) (at' k) (ai v) (N6 (E7 m k v))):=zSQ Tryz.underlying181 Tryz.underlying9 m k v
theorem zNi{l r:List Int}{a b:Int}(h:gsl l a b=some r):vG Tryz.prog 35 (.sl (zD zM l) l.length .no) (some (ai a)) (some (ai b)) none=some (.sl (zD zM r) r.length .no):=zJP mC Tryz.underlying35 O6 rfl h
theorem uX{l r:List Tm}{a:Int}(h:gsl l a l.length=some r):vG Tryz.prog 30 (.sl (zD zA l) l.length .no) (some (ai a)) none none=some (.sl (zD zA r) r.length .no):=zAr qH Tryz.underlying30 jV rfl h
theorem zNh{b off n c:Nat}{y:Int}{r:Nat×Nat}(h:zHX c 0 y=some r):vG Tryz.prog 23 (.ms b off n c 15) none (some (ai y)) none=some (.ms b off r.2 c 15):=zKs Tryz.underlying23 dJ rfl (by decide) h
theorem tR{l r:List Tm}{b:Int}(h:gsl l 0 b=some r):vG Tryz.prog 30 (.sl (zD zA l) l.length .no) none (some (ai b)) none=some (.sl (zD zA r) r.length .no):=zEc qH Tryz.underlying30 jV rfl h
theorem jW{l r:List Tm}{b:Int}{o:Own}(h:gsl l 0 b=some r):vG Tryz.prog 30 (.sl (zD zA l) l.length o) none (some (ai b)) (some (ai b))=some (.sl (zD zA r) r.length .full):=B9 qH Tryz.underlying30 jV rfl h
theorem zKB{l r:List ByteArray}{b:Int}{o:Own}(h:gsl l 0 b=some r):vG Tryz.prog 79 (.sl (zD yU l) l.length o) none (some (ai b)) (some (ai b))=some (.sl (zD yU r) r.length .full):=B9 M6 Tryz.underlying79 zGg rfl h
theorem zGa{l r:List Tm}{b:Int}{o:Own}(h:gsl l 0 b=some r):∃a0,vG Tryz.prog 30 (.sl (zD zA l) l.length o) none (some (ai b)) none=some a0∧a0.frz = .sl (zD zA r) r.length .no:=zBI qH Tryz.underlying30 jV rfl h
theorem zNg{n:Int}{l:List Ent}(hp:n>0)(h:gmk 192 (default:Ent) n=some l):Ob.ok Tryz.prog (.mk (L7 Tryz.prog 23 3 (ai n)) (zD zI l) l.length):=zSR Tryz.underlying3 hp (zKv Tryz.underlying23 dJ rfl rfl rfl (by decide) rfl (by decide) (by rfl) h)
mutual
def zIw:Nat->Tm->Int->Option (Int)
 |0,_,_=>none
 |qq+1,p0,p1=>
 hJ qq p0 (w64 (p1+1)) 0
def hJ:Nat->Tm->Int->Int->Option (Int)
 |0,_,_,_=>none
 |qq+1,p0,v1,v12=>
 if decide (v12<(List.length p0.sub:Int))then
 zL p0.sub v12>>=fun x2=>
 if decide (v1>8192)then
 some v1
 else
 zIw qq x2 v1>>=fun r5=>
 hJ qq p0 r5 (w64 (v12+1))
 else
 some v1
end
theorem zCv:∀qq:Nat,(∀p0 p1,Cz (zIw qq p0 p1) 297 [] [tmA p0,ai p1] (fun r=>ai r) (fun _=>[]) 0)∧(∀p0 v1 v12,Lz (hJ qq p0 v1 v12) 0 Tryz.f297 (inn (inn (rgt (lft (rgt (rgt (bod Tryz.f297))))))) (fun j=>sp j 23 0 [(1,ai v1),(10,slv zA p0.sub .no),(11,ai (List.length p0.sub:Int)),(12,ai v12)]) ⟨[],0,[],0,[]⟩ (fun r=>ai r) (fun _=>[]) 0 [.blk 0,.seq (rgt (rgt (rgt (bod Tryz.f297))))]):=yW ⟨fun _ _=>cN,fun _ _ _=>lN⟩ fun qq ih=>⟨fun p0 p1=>fw Tryz.func297<|fH 3 [] [] [] [1,10,11,12] (ih.2 _ _ _),
 fun p0 v1 v12=>lw fun _=>rB 0 (rA 0 (yM (o:=.no)) fun _=>rB 2 (lE 0)<|rC 1 [] (ih.1 _ _) fun _=>lH 1 [] [] [] [1,10,11,12] (ih.2 _ _ _))<|lE 0⟩
theorem zUa{qq p0 p1}:Cz (zIw qq p0 p1) 297 [] [tmA p0,ai p1] (fun r=>ai r) (fun _=>[]) 0:=(zCv _).1 _ _
def zKC(qq:Nat)(p0:Tm):Option (Int):=
 zIw qq p0 0>>=fun r1=>
 some r1
theorem zTw{qq p0}:Cz (zKC qq p0) 257 [] [tmA p0] (fun r=>ai r) (fun _=>[]) 0:=fw Tryz.func257<|rC 1 [] zUa fun _=>fE 0
mutual
def zIv:Nat->Tm->Int->Option (Int)
 |0,_,_=>none
 |qq+1,p0,p1=>
 if decide (p1>128)then
 some p1
 else
 hU qq p0 p1 0 p1
def hU:Nat->Tm->Int->Int->Int->Option (Int)
 |0,_,_,_,_=>none
 |qq+1,p0,p1,v15,v5=>
 if decide (v15<(List.length p0.sub:Int))then
 zL p0.sub v15>>=fun x3=>
 zIv qq x3 (w64 (p1+1))>>=fun r5=>
 hU qq p0 p1 (w64 (v15+1)) (mA v5 r5)
 else
 some v5
end
theorem zCu:∀qq:Nat,(∀p0 p1,Cz (zIv qq p0 p1) 258 [] [tmA p0,ai p1] (fun r=>ai r) (fun _=>[]) 0)∧(∀p0 p1 v15 v5,Lz (hU qq p0 p1 v15 v5) 0 Tryz.f258 (inn (inn (rgt (lft (rgt (rgt (rgt (bod Tryz.f258)))))))) (fun j=>sp j 27 0 [(1,ai p1),(5,ai v5),(13,slv zA p0.sub .no),(14,ai (List.length p0.sub:Int)),(15,ai v15)]) ⟨[],0,[],0,[]⟩ (fun r=>ai r) (fun _=>[]) 0 [.blk 0,.seq (rgt (rgt (rgt (rgt (bod Tryz.f258)))))]):=yW ⟨fun _ _=>cN,fun _ _ _ _=>lN⟩ fun qq ih=>⟨fun p0 p1=>fw Tryz.func258<|rB 0 (fE 0)<|fH 2 [] [] [] [1,5,13,14,15] (ih.2 _ _ _ _),
 fun p0 p1 v15 v5=>lw fun _=>rB 0 (rA 0 (yM (o:=.no)) fun _=>rC 4 [] (ih.1 _ _) fun _=>lH 2 [] [] [] [1,5,13,14,15] (ih.2 _ _ _ _))<|lE 0⟩
theorem zUA{qq p0 p1}:Cz (zIv qq p0 p1) 258 [] [tmA p0,ai p1] (fun r=>ai r) (fun _=>[]) 0:=(zCu _).1 _ _
def zNf(qq:Nat)(p0:Tm):Option (Int):=
 zKC qq p0>>=fun r1=>
 if decide (r1>8192)then
 some 129
 else
 zIv qq p0 1>>=fun r4=>
 some r4
theorem zUB{qq p0}:Cz (zNf qq p0) 210 [] [tmA p0] (fun r=>ai r) (fun _=>[]) 0:=fw Tryz.func210<|rC 1 [] zTw fun _=>rB 0 (fE 0)<|rC 1 [] zUA fun _=>fE 0
def zNe(qq:Nat)(p0:Tm):Option (Bool):=
 if decide (p0.k<1)then
 some false
 else
 if decide (p0.k>8)then
 some false
 else
 zL ([0,0,0,2,2,2,0,1,0]:List Int) p0.k>>=fun x3=>
 zL ([0,1048576,7,0,0,0,1048576,1048576,1048576]:List Int) p0.k>>=fun x5=>
 if (List.length p0.sub:Int)==x3 then
 if decide (p0.n≥0)then
 if decide (p0.n≤x5)then
 if p0.k != 7 then
 some true
 else
 zL p0.sub 0>>=fun x11=>
 some (x11.k==2)
 else
 some false
 else
 some false
 else
 some false
theorem zUC{qq p0}:Cz (zNe qq p0) 259 [] [tmA p0] (fun r=>ab r) (fun _=>[]) 0:=fw Tryz.func259<|rB 1 (fE 0)<|rB 1 (fE 0)<|rW (fun h4=>oA 1 (zCw h4 rfl)) fun _=>rW (fun h6=>oA 1 (zCw h6 rfl)) fun _=>rB 2 (rB 1 (rB 1 (rB 1 (fE 0)<|rA 1 (yM (o:=.no)) fun _=>fE 2)<|fE 0)<|fE 0)<|fE 0
mutual
def zIu:Nat->Tm->Option (Bool)
 |0,_=>none
 |qq+1,p0=>
 zNe qq p0>>=fun r1=>
 if r1 then
 gA qq p0 0
 else
 some false
def gA:Nat->Tm->Int->Option (Bool)
 |0,_,_=>none
 |qq+1,p0,v11=>
 if decide (v11<(List.length p0.sub:Int))then
 zL p0.sub v11>>=fun x5=>
 zIu qq x5>>=fun r7=>
 if r7 then
 gA qq p0 (w64 (v11+1))
 else
 some false
 else
 some true
end
theorem zCt:∀qq:Nat,(∀p0,Cz (zIu qq p0) 211 [] [tmA p0] (fun r=>ab r) (fun _=>[]) 0)∧(∀p0 v11,Lz (gA qq p0 v11) 0 Tryz.f211 (inn (inn (rgt (lft (rgt (rgt (bod Tryz.f211))))))) (fun j=>sp j 19 0 [(9,slv zA p0.sub .no),(10,ai (List.length p0.sub:Int)),(11,ai v11)]) ⟨[],0,[],0,[]⟩ (fun r=>ab r) (fun _=>[]) 0 [.blk 0,.seq (rgt (rgt (rgt (bod Tryz.f211))))]):=yW ⟨fun _=>cN,fun _ _=>lN⟩ fun qq ih=>⟨fun p0=>fw Tryz.func211<|rK 1 [] zUC (fun _=>fH 3 [] [] [] [9,10,11] (ih.2 _ _)) fun _=>fE 1,
 fun p0 v11=>lw fun _=>rB 0 (rA 0 (yM (o:=.no)) fun _=>rK 3 [] (ih.1 _) (fun _=>lH 2 [] [] [] [9,10,11] (ih.2 _ _)) fun _=>lE 1)<|lE 0⟩
theorem zUD{qq p0}:Cz (zIu qq p0) 211 [] [tmA p0] (fun r=>ab r) (fun _=>[]) 0:=(zCt _).1 _
def tV(qq:Nat)(p0:Tm):Option (Bool):=
 zNf qq p0>>=fun r1=>
 if decide (r1≤128)then
 zIu qq p0>>=fun r4=>
 some r4
 else
 some false
theorem sW{qq p0}:Cz (tV qq p0) 158 [] [tmA p0] (fun r=>ab r) (fun _=>[]) 0:=fw Tryz.func158<|rC 1 [] zUB fun _=>rB 0 (rC 1 [] zUD fun _=>fE 0)<|fE 0
mutual
theorem zGA:∀(t:Tm) (h:Int),t.Ok->0≤h->h≤8192->Evt (fun q=>zIw q t h) (szT t h)
 | .mk k n l,h,ho,h0,h1=>by
  refine Evt.succ ?_
  simp only[zIw]
  rw[zV (by omega) (by omega),szT]
  exact zCs l (.mk k n l) 0 (h+1) rfl ho.1 ho.2 (by omega) (by omega)
theorem zCs:∀(l:List Tm) (p:Tm) (v:Nat) (h:Int),p.sub.drop v=l->p.sub.length<9223372036854775808->OkL l->0≤h->h≤8193->Evt (fun q=>hJ q p h (v:Int)) (szL l h)
 | [],p,v,h,hd,hl,ho,h0,h1=>by
  refine Evt.succ ?_
  simp only[hJ]
  rw[szL]
  exact Evt.ifF (zX hd) Evt.ret
 |t::l,p,v,h,hd,hl,ho,h0,h1=>by
  refine Evt.succ ?_
  simp only[hJ]
  refine Evt.ifT (zW hd) (Evt.pure (zS hd) ?_)
  rw[szL]
  by_cases h2:h>8192
  ·rw[if_pos h2];exact Evt.ifT (by simpa using h2) Evt.ret
  ·rw[if_neg h2]
   refine Evt.ifF (by simpa using h2) ((zGA t h ho.1 h0 (by omega)).bind ?_)
   rw[zU v (by have:=yC hd;omega)]
   have:=zBK t h h0 (by omega)
   exact zCs l p (v+1) (szT t h) (zQ hd) hl ho.2 (by omega) (by omega)
end
theorem zGB(t:Tm)(ho:t.Ok):Evt (fun q=>zKC q t) (szT t 0):=by
 simp only[zKC]
 exact(zGA t 0 ho (by omega) (by omega)).bind Evt.ret
mutual
theorem zGC:∀(t:Tm) (a:Int),t.Ok->0≤a->a≤129->Evt (fun q=>zIv q t a) (dpT t a)
 | .mk k n l,a,ho,h0,h1=>by
  refine Evt.succ ?_
  simp only[zIv]
  rw[dpT]
  by_cases h2:a>128
  ·rw[if_pos h2];exact Evt.ifT (by simpa using h2) Evt.ret
  ·rw[if_neg h2];exact Evt.ifF (by simpa using h2) (zCr l (.mk k n l) 0 a a rfl ho.1 ho.2 h0 (by omega))
theorem zCr:∀(l:List Tm) (p:Tm) (v:Nat) (a m:Int),p.sub.drop v=l->p.sub.length<9223372036854775808->OkL l->0≤a->a≤128->Evt (fun q=>hU q p a (v:Int) m) (dpL l a m)
 | [],p,v,a,m,hd,hl,ho,h0,h1=>by
  refine Evt.succ ?_
  simp only[hU]
  rw[dpL]
  exact Evt.ifF (zX hd) Evt.ret
 |t::l,p,v,a,m,hd,hl,ho,h0,h1=>by
  refine Evt.succ ?_
  simp only[hU]
  refine Evt.ifT (zW hd) (Evt.pure (zS hd) ?_)
  rw[dpL,zV (x:=a+1) (by omega) (by omega)]
  refine(zGC t (a+1) ho.1 (by omega) (by omega)).bind ?_
  rw[zU v (by have:=yC hd;omega)]
  exact zCr l p (v+1) a _ (zQ hd) hl ho.2 h0 h1
end
def zKD(t:Tm):Int:=if szT t 0>8192 then 129 else dpT t 1
theorem zKE(t:Tm)(ho:t.Ok):Evt (fun q=>zNf q t) (zKD t):=by
 simp only[zNf]
 refine(zGB t ho).bind ?_
 unfold zKD
 by_cases h:szT t 0>8192
 ·rw[if_pos h];exact Evt.ifT (by simpa using h) Evt.ret
 ·rw[if_neg h];exact Evt.ifF (by simpa using h) ((zGC t 1 ho (by omega) (by omega)).bind Evt.ret)
theorem zNd(t:Tm):zKD t≤128↔t.nodes≤8192∧t.high≤128:=by
 have h1:=zJQ t 0 (by omega) (by omega)
 have h2:=zJS t 1 (by omega) (by omega)
 unfold zKD
 by_cases h3:t.nodes≤8192
 ·rw[if_neg (by rw[h1.1 (by omega)];omega)]
  by_cases h4:t.high≤128
  ·rw[h2.1 (by omega)];omega
  ·rw[h2.2 (by omega)];omega
 ·rw[if_pos (by rw[h1.2 (by omega)];omega)];omega
theorem zNc(t:Tm):Evt (fun q=>zNe q t) (B7 t):=by
 refine Evt.mk fun q=>?_
 unfold zNe B7
 generalize t.k=k
 generalize t.n=n
 generalize t.sub=l
 by_cases h1:k<1
 ·rw[zNm (decide_eq_true h1)];simp;omega
 ·by_cases h2:k>8
  ·rw[zKq (decide_eq_false h1),zNm (decide_eq_true h2)];simp;omega
  ·rw[zKq (decide_eq_false h1),zKq (decide_eq_false h2)]
   have:k=1∨k=2∨k=3∨k=4∨k=5∨k=6∨k=7∨k=8:=by omega
   rcases this with rfl|rfl|rfl|rfl|rfl|rfl|rfl|rfl
   case inr.inr.inr.inr.inr.inr.inl=>
    rcases l with _|⟨x,_|⟨y,l⟩⟩<;>simp[zL]<;>grind
   case inr.inr.inl|inr.inr.inr.inl|inr.inr.inr.inr.inl=>
    by_cases hl:l.length=2
    ·simp[zL,hl];grind
    ·have h':¬((l.length:Int)=2):=by omega
     simp[zL,hl,h']
   all_goals (simp[zL];grind)
mutual
theorem zGD:∀(t:Tm),t.Ok->Evt (fun q=>zIu q t) (xS t)
 | .mk k n l,ho=>by
  refine Evt.succ ?_
  simp only[zIu]
  refine(zNc (.mk k n l)).bind ?_
  rw[xS]
  cases B7 (.mk k n l)with
  |false=>exact Evt.ifF rfl Evt.ret
  |true=>exact Evt.ifT rfl (zCq l (.mk k n l) 0 rfl ho.1 ho.2)
theorem zCq:∀(l:List Tm) (p:Tm) (v:Nat),p.sub.drop v=l->p.sub.length<9223372036854775808->OkL l->Evt (fun q=>gA q p (v:Int)) (pN l)
 | [],p,v,hd,hl,ho=>by
  refine Evt.succ ?_
  simp only[gA]
  rw[pN]
  exact Evt.ifF (zX hd) Evt.ret
 |t::l,p,v,hd,hl,ho=>by
  refine Evt.succ ?_
  simp only[gA]
  refine Evt.ifT (zW hd) (Evt.pure (zS hd) ((zGD t ho.1).bind ?_))
  rw[pN]
  cases xS t with
  |false=>exact Evt.ifF rfl Evt.ret
  |true=>
   refine Evt.ifT rfl ?_
   rw[zU v (by have:=yC hd;omega)]
   exact zCq l p (v+1) (zQ hd) hl ho.2
end
theorem xB(t:Tm)(ho:t.Ok):Evt (fun q=>tV q t) (zG t):=by
 simp only[tV]
 refine(zKE t ho).bind ?_
 have h:=zNd t
 unfold zG
 by_cases h1:zKD t≤128
 ·refine Evt.ifT (by simpa using h1) (((zGD t ho).bind Evt.ret).eq ?_)
  have:=h.1 h1
  simp[this.1,this.2]
 ·refine Evt.ifF (by simpa using h1) (Evt.ret.eq ?_)
  by_cases h2:t.nodes≤8192
  ·by_cases h3:t.high≤128
   ·exact absurd (h.2 ⟨h2,h3⟩) h1
   ·simp[h3]
  ·simp[h2]
def zKF(qq:Nat)(p0:Tm)(p1:Int):Option (Int):=
 if p1==1 then
 if p0.k==3 then
 some 1
 else
 if p0.k==4 then
 some 1
 else
 some 0
 else
 some 0
theorem zTv{qq p0 p1}:Cz (zKF qq p0 p1) 249 [] [tmA p0,ai p1] (fun r=>ai r) (fun _=>[]) 0:=fw Tryz.func249<|rB 0 (rB 1 (fE 0)<|rB 1 (fE 0)<|fE 0)<|fE 0
mutual
def zIt:Nat->Tm->Int->Option (Int)
 |0,_,_=>none
 |qq+1,p0,p1=>
 if p0.k==1 then
 some (mA 0 (w64 ((w64 (p0.n+1))-p1)))
 else
 gB qq p0 p1 0 0
def gB:Nat->Tm->Int->Int->Int->Option (Int)
 |0,_,_,_,_=>none
 |qq+1,p0,p1,v20,v5=>
 if decide (v20<(List.length p0.sub:Int))then
 zL p0.sub v20>>=fun x3=>
 zKF qq p0 v20>>=fun r5=>
 zIt qq x3 (w64 (p1+r5))>>=fun r7=>
 gB qq p0 p1 (w64 (v20+1)) (mA v5 r7)
 else
 some v5
end
theorem zCp:∀qq:Nat,(∀p0 p1,Cz (zIt qq p0 p1) 194 [] [tmA p0,ai p1] (fun r=>ai r) (fun _=>[]) 0)∧(∀p0 p1 v20 v5,Lz (gB qq p0 p1 v20 v5) 0 Tryz.f194 (inn (inn (rgt (lft (rgt (rgt (rgt (bod Tryz.f194)))))))) (fun j=>sp j 36 0 [(1,ai p1),(2,.mp 0 0),(5,ai v5),(18,slv zA p0.sub .no),(19,ai (List.length p0.sub:Int)),(20,ai v20)]) ⟨[(0,.cells [ai p0.k,ai p0.n,slv zA p0.sub .no])],1,[],0,[]⟩ (fun r=>ai r) (fun _=>[]) 0 [.blk 0,.seq (rgt (rgt (rgt (rgt (bod Tryz.f194)))))]):=yW ⟨fun _ _=>cN,fun _ _ _ _=>lN⟩ fun qq ih=>⟨fun p0 p1=>fw Tryz.func194<|rB 1 (fE 4)<|fH 2 [] [0] [] [1,2,5,18,19,20] (ih.2 _ _ _ _),
 fun p0 p1 v20 v5=>lw fun _=>rB 0 (rA 0 (yM (o:=.no)) fun _=>rC 4 [] zTv fun _=>rC 1 [] (ih.1 _ _) fun _=>lH 2 [] [0] [] [1,2,5,18,19,20] (ih.2 _ _ _ _))<|lE 0⟩
theorem zUE{qq p0 p1}:Cz (zIt qq p0 p1) 194 [] [tmA p0,ai p1] (fun r=>ai r) (fun _=>[]) 0:=(zCp _).1 _ _
mutual
def zEG:Nat->Tm->Int->Int->Option (List Int)
 |0,_,_,_=>none
 |qq+1,p0,p1,p2=>
 if p0.k==p1 then
 yR 8 ([]:List Int) [p0.n]>>=fun l2=>
 pU qq p0 p1 p2 0 l2
 else
 if p0.k==p2 then
 yR 8 ([]:List Int) [p0.n]>>=fun l5=>
 pU qq p0 p1 p2 0 l5
 else
 pU qq p0 p1 p2 0 []
def pU:Nat->Tm->Int->Int->Int->(List Int)->Option (List Int)
 |0,_,_,_,_,_=>none
 |qq+1,p0,p1,p2,v28,v7=>
 if decide (v28<(List.length p0.sub:Int))then
 zL p0.sub v28>>=fun x5=>
 zEG qq x5 p1 p2>>=fun r7=>
 yR 8 v7 r7>>=fun l9=>
 pU qq p0 p1 p2 (w64 (v28+1)) l9
 else
 some v7
end
theorem zCo:∀qq:Nat,(∀p0 p1 p2,Cz (zEG qq p0 p1 p2) 251 [] [tmA p0,ai p1,ai p2] (fun r=>slv zM r (.st 0 1)) (fun _=>[]) 1)∧(∀p0 p1 p2 v28 v7,Lz (pU qq p0 p1 p2 v28 v7) 0 Tryz.f251 (inn (inn (rgt (lft (rgt (rgt (rgt (bod Tryz.f251)))))))) (fun j=>sp j 40 0 [(1,ai p1),(2,ai p2),(7,slv zM v7 (.st 0 1)),(26,slv zA p0.sub .no),(27,ai (List.length p0.sub:Int)),(28,ai v28)]) ⟨[],0,[0],1,[]⟩ (fun r=>slv zM r (.st 0 1)) (fun _=>[]) 1 [.blk 0,.seq (rgt (rgt (rgt (rgt (bod Tryz.f251)))))]∧Lz (pU qq p0 p1 p2 v28 v7) 0 Tryz.f251 (inn (inn (rgt (lft (rgt (rgt (rgt (bod Tryz.f251)))))))) (fun j=>sp j 40 0 [(1,ai p1),(2,ai p2),(7,slv zM v7 .nl),(26,slv zA p0.sub .no),(27,ai (List.length p0.sub:Int)),(28,ai v28)]) ⟨[],0,[],0,[]⟩ (fun r=>slv zM r (.st 0 1)) (fun _=>[]) 1 [.blk 0,.seq (rgt (rgt (rgt (rgt (bod Tryz.f251)))))]):=yW ⟨fun _ _ _=>cN,fun _ _ _ _ _=>⟨lN,lN⟩⟩ fun qq ih=>⟨fun p0 p1 p2=>fw Tryz.func251<|rB 1 (rW (fun h3=>oP 2 (nO h3 (by simp))) fun _=>fH 2 [] [] [0] [1,2,7,26,27,28] ((ih.2 _ _ _ _ _).1))<|rB 1 (rW (fun h6=>oP 2 (nO h6 (by simp))) fun _=>fH 2 [] [] [0] [1,2,7,26,27,28] ((ih.2 _ _ _ _ _).1))<|fH 2 [] [] [] [1,2,7,26,27,28] ((ih.2 _ _ _ _ _).2),
 fun p0 p1 p2 v28 v7=>⟨lw fun _=>rB 0 (rA 0 (yM (o:=.no)) fun _=>rC 3 [] (ih.1 _ _ _) fun r7=>rH fun _ h10=>rZ (List.length r7=0) (fun h11=>rS (oP 0 (zKj h10 h11))<|lH 1 [] [] [0] [1,2,7,26,27,28] ((ih.2 _ _ _ _ _).1)) fun h11=>rS (oP 0 (nO h10 h11))<|lH 1 [] [] [2] [1,2,7,26,27,28] ((ih.2 _ _ _ _ _).1))<|lG 0 [] [] [0] true,lw fun _=>rB 0 (rA 0 (yM (o:=.no)) fun _=>rC 3 [] (ih.1 _ _ _) fun r7=>rH fun _ h10=>rZ (List.length r7=0) (fun h11=>rS (oP 0 (zKj h10 h11))<|lH 1 [] [] [] [1,2,7,26,27,28] ((ih.2 _ _ _ _ _).2)) fun h11=>rS (oP 0 (nO h10 h11))<|lH 1 [] [] [1] [1,2,7,26,27,28] ((ih.2 _ _ _ _ _).1))<|lG 0 [(none,6,1)] [] [0] true⟩⟩
theorem zTu{qq p0 p1 p2}:Cz (zEG qq p0 p1 p2) 251 [] [tmA p0,ai p1,ai p2] (fun r=>slv zM r (.st 0 1)) (fun _=>[]) 1:=(zCo _).1 _ _ _
def zIs(qq:Nat)(p0:Tm):Option (List Int):=
 (tV qq p0)>>=fun r1=>
 if r1=true then
  (zEG qq p0 6 7)>>=fun r4=>
  if decide (List.length r4<4611686018427387904)=true then some (wO r4)else none
 else
  some []
theorem zTt{qq:Nat}{p0:Tm}{r:List Int}(h:zIs qq p0=some r):CT Tryz.prog 195 [] [tmA p0] (.sl (zD zM r) (List.length r) .no) [] 0:=by
 unfold zIs at h
 obtain⟨r1,h2,h⟩:=oO h
 rcases O4 r1 with h3|h3
 ·replace h:=ifT h3 h
  obtain⟨l,h5,h⟩:=oO h
  rcases O4 (decide (List.length l<4611686018427387904))with h6|h6
  ·replace h:=ifT h6 h
   replace h:=Option.some.inj h
   subst h
   subst h3
   have hsz:List.length l<4611686018427387904:=by simpa using h6
   refine⟨?_,⟨⟨trivial,trivial,⟨trivial,dT _⟩,trivial⟩,trivial⟩,(fun _ h=>nomatch h),dI _,(fun _ h=>nomatch h)⟩
   have k0:knd (bod Tryz.f195)=1:=by kernel_rfl
   have k1:knd (rgt (bod Tryz.f195))=1:=by kernel_rfl
   have k2:knd (rgt (rgt (bod Tryz.f195)))=1:=by kernel_rfl
   have k3:cI (lft (rgt (rgt (bod Tryz.f195))))=true:=by kernel_rfl
   have k4:zAo (wA (lft (rgt (rgt (bod Tryz.f195)))))[2]? = some (some 8,250,#[.tmp 7]):=by kernel_rfl
   have k5:(Tryz.f250.name == "runtime.NumGoroutine")=false:=by kernel_rfl
   have k6:Tryz.f250.body.isNone=false:=by kernel_rfl
   have x1:sV Tryz.prog uW 3000 (.run (lft (bod Tryz.f195))) [] ([tmA p0]++List.replicate (Tryz.f195.ntmps-1) (.val undef)) (st0 []) []=some (.fin .normal,[tmA p0,.mp 0 0,.sl [] 0 .nl,.val undef,.val undef,.val undef,.val undef,.val undef,.val undef],⟨[(0,.cells (tmL p0))],1,[],0,[]⟩,[],[]):=by kernel_rfl
   have x2:sV Tryz.prog uW 3000 (.run (lft (rgt (bod Tryz.f195)))) [] [tmA p0,.mp 0 0,.sl [] 0 .nl,.val undef,.val undef,.val undef,.val undef,.val undef,.val undef] ⟨[(0,.cells (tmL p0))],1,[],0,[]⟩ [.no,.call [] [] 0 (ab true) (some true),.no]=some (.fin .normal,[tmA p0,.mp 0 0,.sl [] 0 .nl,tmA p0,ab true,ab false,.val undef,.val undef,.val undef],⟨[(0,.cells (tmL p0))],1,[],0,[]⟩,[],[.bit true true,.call 158 [] [tmA p0] (ab true) [] 0]):=by kernel_rfl
   have x3:(eD Tryz.prog uW (wA (lft (rgt (rgt (bod Tryz.f195))))) ((wA (lft (rgt (rgt (bod Tryz.f195))))).toList.take 2) 0 [tmA p0,.mp 0 0,.sl [] 0 .nl,tmA p0,ab true,ab false,.val undef,.val undef,.val undef] ⟨[(0,.cells (tmL p0))],1,[],0,[]⟩ [.no,.call [] [] 1 (.sl (zD zM l) l.length (.st 0 1)) none]).map Prod.snd=some ([tmA p0,.mp 0 0,.sl [] 0 .nl,tmA p0,ab true,ab false,tmA p0,.sl (zD zM l) l.length (.st 0 1),.val undef],⟨[(0,.cells (tmL p0))],1,[0],1,[]⟩,[],[.call 251 [] [tmA p0,ai 6,ai 7] (.sl (zD zM l) l.length (.st 0 1)) [] 1]):=by kernel_rfl
   have x4:∀j:Nat->Value,(eD Tryz.prog uW (wA (lft (rgt (rgt (bod Tryz.f195))))) ((wA (lft (rgt (rgt (bod Tryz.f195))))).toList.drop 3) 3 (eset (tells [] (mutEnv [] j [tmA p0,.mp 0 0,.sl [] 0 .nl,tmA p0,ab true,ab false,tmA p0,.sl (zD zM l) l.length (.st 0 1),.val undef] 0)) (some 8) (.sl (zD zM (wO l)) (wO l).length .no)) (pJ [] ⟨[(0,.cells (tmL p0))],1,[0],1,[]⟩) []).map Prod.snd=some ([.val (j 0),.val (j 1),.sl (zD zM (wO l)) (wO l).length .no,.val (j 3),ab true,ab false,.val (j 6),.val (j 7),.sl (zD zM (wO l)) (wO l).length .no],⟨[],1,[],0,[]⟩,[],[]):=fun j=>by kernel_rfl
   have x5:∀j:Nat->Value,aD Tryz.prog uW 0 Tryz.f195 3000 (.run (rgt (rgt (rgt (bod Tryz.f195))))) [] [.val (j 0),.val (j 1),.sl (zD zM (wO l)) (wO l).length .no,.val (j 3),ab true,ab false,.val (j 6),.val (j 7),.sl (zD zM (wO l)) (wO l).length .no] ⟨[],1,[],0,[]⟩ [] [] [] [] false=some (.sl (zD zM (wO l)) (wO l).length .no,[],[.data (zD zM (wO l))]):=fun j=>by kernel_rfl
   refine vV.body Tryz.func195 (by kernel_rfl) ?_
   refine Dv.seqP k0 ?_
   refine qS (Q:=_) xI mixed 3000 (.run (lft (bod Tryz.f195))) [] _ _ _ _ _ _ _ _ x1 yB.nil ?_
   refine Dv.seqP k1 ?_
   refine qS (Q:=_) xI mixed 3000 (.run (lft (rgt (bod Tryz.f195)))) [] _ _ _ _ _ _ _ _ x2 (yB.cons (mS rfl) (yB.cons (aF (sW _ h2)) yB.nil)) ?_
   refine Dv.seqP k2 ?_
   obtain⟨id,k7⟩:=zNp k3
   rw[k7]
   refine Dv.mut xI (na:=(0:Nat)) rfl 2 [] [] _ x3 (yB.cons (aF (zTu _ h5)) yB.nil) k4 Tryz.func250 k5 k6 (fun i X h=>by cases h) ?_ x4 yB.nil ?_
   ·intro G0 W hB G w hE hR u hu
    refine(Z6 hR (by rfl) hsz hu).mono ?_
    rintro e w' ⟨v,b,S,z1,z2,z3,z4,z5,z6⟩
    exact⟨v,b,S,z1,z2,z3,z4,z5,fun G' _ _ hS=>⟨z6 G' hS,fun q hq=>by cases hq⟩⟩
   ·intro j
    exact iU (na:=(0:Nat)) xI mixed (x5 j) (yB.cons (rG (dI _)) yB.nil) (by decide)
  ·replace h:=ifF h6 h
   cases h
 ·replace h:=ifF h3 h
  replace h:=Option.some.inj h
  subst h
  exact⟨vV.toFin xI mixed Tryz.func195 (by kernel_rfl) 3000 [.no,.call [] [] 0 (ab r1) (some false),.no] [] [] [] false (by kernel_rfl) (yB.cons (mS h3) (yB.cons (aF (sW _ h2)) (yB.cons (rG (dI ([]:List Int))) yB.nil))) (by decide),⟨⟨trivial,trivial,⟨trivial,dT _⟩,trivial⟩,trivial⟩,(fun _ h=>nomatch h),dI _,(fun _ h=>nomatch h)⟩
theorem zUF{qq:Nat}{p0:Tm}:Cz (zIs qq p0) 195 [] [tmA p0] (fun r=>.sl (zD zM r) (List.length r) .no) (fun _=>[]) 0:=fun _ h=>zTt h
def O8(qq:Nat)(p0:Tm)(p1 p2:Int):Option (Bool):=
 tV qq p0>>=fun r1=>
 if r1 then
 zIt qq p0 0>>=fun r4=>
 if decide (r4>p1)then
 some false
 else
 zIs qq p0>>=fun r7=>
 if (List.length r7:Int)==0 then
 some true
 else
 zL r7 (w64 ((List.length r7:Int)-1))>>=fun x10=>
 some (decide (x10<p2))
 else
 some false
theorem zEH{qq p0 p1 p2}:Cz (O8 qq p0 p1 p2) 136 [] [tmA p0,ai p1,ai p2] (fun r=>ab r) (fun _=>[]) 0:=fw Tryz.func136<|rK 1 [] sW (fun _=>rC 2 [] zUE fun _=>rB 0 (fE 0)<|rC 1 [] zUF fun _=>rB 1 (fE 0)<|rA 2 (pL (o:=.no)) fun _=>fE 2) fun _=>fE 1
def zIr(qq:Nat)(p0:Tm):Option (List Int):=
 (tV qq p0)>>=fun r1=>
 if r1=true then
  (zEG qq p0 8 8)>>=fun r4=>
  if decide (List.length r4<4611686018427387904)=true then some (wO r4)else none
 else
  some []
theorem zTs{qq:Nat}{p0:Tm}{r:List Int}(h:zIr qq p0=some r):CT Tryz.prog 204 [] [tmA p0] (.sl (zD zM r) (List.length r) .no) [] 0:=by
 unfold zIr at h
 obtain⟨r1,h2,h⟩:=oO h
 rcases O4 r1 with h3|h3
 ·replace h:=ifT h3 h
  obtain⟨l,h5,h⟩:=oO h
  rcases O4 (decide (List.length l<4611686018427387904))with h6|h6
  ·replace h:=ifT h6 h
   replace h:=Option.some.inj h
   subst h
   subst h3
   have hsz:List.length l<4611686018427387904:=by simpa using h6
   refine⟨?_,⟨⟨trivial,trivial,⟨trivial,dT _⟩,trivial⟩,trivial⟩,(fun _ h=>nomatch h),dI _,(fun _ h=>nomatch h)⟩
   have k0:knd (bod Tryz.f204)=1:=by kernel_rfl
   have k1:knd (rgt (bod Tryz.f204))=1:=by kernel_rfl
   have k2:knd (rgt (rgt (bod Tryz.f204)))=1:=by kernel_rfl
   have k3:cI (lft (rgt (rgt (bod Tryz.f204))))=true:=by kernel_rfl
   have k4:zAo (wA (lft (rgt (rgt (bod Tryz.f204)))))[2]? = some (some 8,250,#[.tmp 7]):=by kernel_rfl
   have k5:(Tryz.f250.name == "runtime.NumGoroutine")=false:=by kernel_rfl
   have k6:Tryz.f250.body.isNone=false:=by kernel_rfl
   have x1:sV Tryz.prog uW 3000 (.run (lft (bod Tryz.f204))) [] ([tmA p0]++List.replicate (Tryz.f204.ntmps-1) (.val undef)) (st0 []) []=some (.fin .normal,[tmA p0,.mp 0 0,.sl [] 0 .nl,.val undef,.val undef,.val undef,.val undef,.val undef,.val undef],⟨[(0,.cells (tmL p0))],1,[],0,[]⟩,[],[]):=by kernel_rfl
   have x2:sV Tryz.prog uW 3000 (.run (lft (rgt (bod Tryz.f204)))) [] [tmA p0,.mp 0 0,.sl [] 0 .nl,.val undef,.val undef,.val undef,.val undef,.val undef,.val undef] ⟨[(0,.cells (tmL p0))],1,[],0,[]⟩ [.no,.call [] [] 0 (ab true) (some true),.no]=some (.fin .normal,[tmA p0,.mp 0 0,.sl [] 0 .nl,tmA p0,ab true,ab false,.val undef,.val undef,.val undef],⟨[(0,.cells (tmL p0))],1,[],0,[]⟩,[],[.bit true true,.call 158 [] [tmA p0] (ab true) [] 0]):=by kernel_rfl
   have x3:(eD Tryz.prog uW (wA (lft (rgt (rgt (bod Tryz.f204))))) ((wA (lft (rgt (rgt (bod Tryz.f204))))).toList.take 2) 0 [tmA p0,.mp 0 0,.sl [] 0 .nl,tmA p0,ab true,ab false,.val undef,.val undef,.val undef] ⟨[(0,.cells (tmL p0))],1,[],0,[]⟩ [.no,.call [] [] 1 (.sl (zD zM l) l.length (.st 0 1)) none]).map Prod.snd=some ([tmA p0,.mp 0 0,.sl [] 0 .nl,tmA p0,ab true,ab false,tmA p0,.sl (zD zM l) l.length (.st 0 1),.val undef],⟨[(0,.cells (tmL p0))],1,[0],1,[]⟩,[],[.call 251 [] [tmA p0,ai 8,ai 8] (.sl (zD zM l) l.length (.st 0 1)) [] 1]):=by kernel_rfl
   have x4:∀j:Nat->Value,(eD Tryz.prog uW (wA (lft (rgt (rgt (bod Tryz.f204))))) ((wA (lft (rgt (rgt (bod Tryz.f204))))).toList.drop 3) 3 (eset (tells [] (mutEnv [] j [tmA p0,.mp 0 0,.sl [] 0 .nl,tmA p0,ab true,ab false,tmA p0,.sl (zD zM l) l.length (.st 0 1),.val undef] 0)) (some 8) (.sl (zD zM (wO l)) (wO l).length .no)) (pJ [] ⟨[(0,.cells (tmL p0))],1,[0],1,[]⟩) []).map Prod.snd=some ([.val (j 0),.val (j 1),.sl (zD zM (wO l)) (wO l).length .no,.val (j 3),ab true,ab false,.val (j 6),.val (j 7),.sl (zD zM (wO l)) (wO l).length .no],⟨[],1,[],0,[]⟩,[],[]):=fun j=>by kernel_rfl
   have x5:∀j:Nat->Value,aD Tryz.prog uW 0 Tryz.f204 3000 (.run (rgt (rgt (rgt (bod Tryz.f204))))) [] [.val (j 0),.val (j 1),.sl (zD zM (wO l)) (wO l).length .no,.val (j 3),ab true,ab false,.val (j 6),.val (j 7),.sl (zD zM (wO l)) (wO l).length .no] ⟨[],1,[],0,[]⟩ [] [] [] [] false=some (.sl (zD zM (wO l)) (wO l).length .no,[],[.data (zD zM (wO l))]):=fun j=>by kernel_rfl
   refine vV.body Tryz.func204 (by kernel_rfl) ?_
   refine Dv.seqP k0 ?_
   refine qS (Q:=_) xI mixed 3000 (.run (lft (bod Tryz.f204))) [] _ _ _ _ _ _ _ _ x1 yB.nil ?_
   refine Dv.seqP k1 ?_
   refine qS (Q:=_) xI mixed 3000 (.run (lft (rgt (bod Tryz.f204)))) [] _ _ _ _ _ _ _ _ x2 (yB.cons (mS rfl) (yB.cons (aF (sW _ h2)) yB.nil)) ?_
   refine Dv.seqP k2 ?_
   obtain⟨id,k7⟩:=zNp k3
   rw[k7]
   refine Dv.mut xI (na:=(0:Nat)) rfl 2 [] [] _ x3 (yB.cons (aF (zTu _ h5)) yB.nil) k4 Tryz.func250 k5 k6 (fun i X h=>by cases h) ?_ x4 yB.nil ?_
   ·intro G0 W hB G w hE hR u hu
    refine(Z6 hR (by rfl) hsz hu).mono ?_
    rintro e w' ⟨v,b,S,z1,z2,z3,z4,z5,z6⟩
    exact⟨v,b,S,z1,z2,z3,z4,z5,fun G' _ _ hS=>⟨z6 G' hS,fun q hq=>by cases hq⟩⟩
   ·intro j
    exact iU (na:=(0:Nat)) xI mixed (x5 j) (yB.cons (rG (dI _)) yB.nil) (by decide)
  ·replace h:=ifF h6 h
   cases h
 ·replace h:=ifF h3 h
  replace h:=Option.some.inj h
  subst h
  exact⟨vV.toFin xI mixed Tryz.func204 (by kernel_rfl) 3000 [.no,.call [] [] 0 (ab r1) (some false),.no] [] [] [] false (by kernel_rfl) (yB.cons (mS h3) (yB.cons (aF (sW _ h2)) (yB.cons (rG (dI ([]:List Int))) yB.nil))) (by decide),⟨⟨trivial,trivial,⟨trivial,dT _⟩,trivial⟩,trivial⟩,(fun _ h=>nomatch h),dI _,(fun _ h=>nomatch h)⟩
theorem zUG{qq:Nat}{p0:Tm}:Cz (zIr qq p0) 204 [] [tmA p0] (fun r=>.sl (zD zM r) (List.length r) .no) (fun _=>[]) 0:=fun _ h=>zTs h
theorem zGE(a b:Int):mA a b=max a b:=by unfold mA;split<;>omega
theorem wQ{k n:Int}{l:List Tm}(h:xS (.mk k n l)=true):B7 (.mk k n l)=true∧pN l=true:=by
 rw[xS]at h;simpa using h
theorem wP{t:Tm}{l:List Tm}(h:pN (t::l)=true):xS t=true∧pN l=true:=by
 rw[pN]at h;simpa using h
theorem lX{k n:Int}{l:List Tm}(h:B7 (.mk k n l)=true):0≤n∧n≤1048576∧1≤k∧k≤8∧l.length≤2:=by
 have:=sI h
 exact⟨this.2.2.1,this.2.2.2.1,this.1,this.2.1,this.2.2.2.2.1⟩
mutual
theorem wF:∀t:Tm,xS t=true->t.Ok
 | .mk k n l,h=>by
  have h1:=wQ h
  rw[Tm.Ok]
  exact⟨by have:=(lX h1.1).2.2.2.2;omega,zCn l h1.2⟩
theorem zCn:∀l:List Tm,pN l=true->OkL l
 | [],_=>by rw[OkL];trivial
 |t::l,h=>by
  have:=wP h
  rw[OkL]
  exact⟨wF t this.1,zCn l this.2⟩
end
mutual
theorem zNb:∀(t:Tm) (b:Int),0≤W8 t b
 | .mk k n l,b=>by
  rw[W8];split
  ·omega
  ·exact zGF l k 0 b
theorem zGF:∀(l:List Tm) (k:Int) (i:Nat) (b:Int),0≤M8 l k i b
 | [],k,i,b=>by rw[M8];omega
 |t::l,k,i,b=>by rw[M8];have:=zNb t (b+W7 k i);omega
end
theorem zCm(t:Tm)(i:Nat):Evt (fun q=>zKF q t (i:Int)) (W7 t.k i):=by
 refine Evt.mk fun q=>?_
 simp only[zKF,W7]
 by_cases h1:i=1
 ·subst h1;simp;by_cases h3:t.k=3<;>by_cases h4:t.k=4<;>simp[h3,h4]
 ·have:¬((i:Int)=1):=by omega
  simp[h1,this]
theorem zGG(k:Int)(i:Nat):0≤W7 k i∧W7 k i≤1:=by unfold W7;split<;>omega
mutual
theorem zCl:∀(t:Tm) (b:Int),xS t=true->0≤b->b+t.high≤4611686018427387904->Evt (fun q=>zIt q t b) (W8 t b)
 | .mk k n l,b,hg,h0,h1=>by
  refine Evt.succ ?_
  simp only[zIt,Tm.k,Tm.n]
  have hh:=wQ hg
  have hn:=lX hh.1
  rw[W8]
  by_cases hk:k=1
  ·rw[if_pos hk]
   rw[Tm.high]at h1
   refine Evt.ifT (by simpa using hk) (Evt.ret.eq ?_)
   rw[zV (x:=n+1) (by omega) (by omega),zV (by omega) (by omega),zGE]
  ·rw[if_neg hk]
   refine Evt.ifF (by simpa using hk) ?_
   rw[Tm.high]at h1
   exact(z7 l (.mk k n l) 0 b 0 rfl (by have:=hn.2.2.2.2;simp only[Tm.sub];omega) hh.2 h0 (by omega) (by omega)).eq (by have:=zGF l k 0 b;simp only[Tm.k];omega)
theorem z7:∀(l:List Tm) (p:Tm) (v:Nat) (b m:Int),p.sub.drop v=l->p.sub.length<9223372036854775808->pN l=true->0≤b->0≤m->b+1+rY l≤4611686018427387904->Evt (fun q=>gB q p b (v:Int) m) (max m (M8 l p.k v b))
 | [],p,v,b,m,hd,hl,ho,h0,hm,h1=>by
  refine Evt.succ ?_
  simp only[gB]
  rw[M8]
  exact Evt.ifF (zX hd) (Evt.ret.eq (by omega))
 |t::l,p,v,b,m,hd,hl,ho,h0,hm,h1=>by
  refine Evt.succ ?_
  simp only[gB]
  have hg:=wP ho
  have hu:=zGG p.k v
  rw[rY]at h1
  refine Evt.ifT (zW hd) (Evt.pure (zS hd) ((zCm p v).bind ?_))
  rw[zV (x:=b+W7 p.k v) (by omega) (by omega)]
  refine(zCl t (b+W7 p.k v) hg.1 (by omega) (by omega)).bind ?_
  rw[zU v (by have:=yC hd;omega),zGE]
  refine(z7 l p (v+1) b _ (zQ hd) hl hg.2 h0 (by omega) (by omega)).eq ?_
  rw[M8];omega
end
mutual
theorem cP:∀(t:Tm) (a b:Int),(jR t a b).length≤t.nodes
 | .mk k n l,a,b=>by
  rw[jR,Tm.nodes]
  have:=zCk l a b
  split<;>simp<;>omega
theorem zCk:∀(l:List Tm) (a b:Int),(M9 l a b).length≤yN l
 | [],a,b=>by rw[M9,yN];simp
 |t::l,a,b=>by
  rw[M9,yN]
  have:=cP t a b
  have:=zCk l a b
  simp;omega
end
mutual
theorem dK:∀(t:Tm) (a b:Int),t.Ok->t.nodes≤8192->Evt (fun q=>zEG q t a b) (jR t a b)
 | .mk k n l,a,b,ho,hn=>by
  refine Evt.succ ?_
  simp only[zEG,Tm.k,Tm.n]
  rw[jR]
  rw[Tm.nodes]at hn
  by_cases ha:k=a
  ·refine Evt.ifT (by simpa using ha) (Evt.pure (zZ (by simp)) ?_)
   rw[if_pos (.inl ha)]
   exact nP l (.mk k n l) 0 a b [n] rfl ho.1 ho.2 (by simp;omega)
  ·refine Evt.ifF (by simpa using ha) ?_
   by_cases hb:k=b
   ·refine Evt.ifT (by simpa using hb) (Evt.pure (zZ (by simp)) ?_)
    rw[if_pos (.inr hb)]
    exact nP l (.mk k n l) 0 a b [n] rfl ho.1 ho.2 (by simp;omega)
   ·refine Evt.ifF (by simpa using hb) ?_
    rw[if_neg (by simp[ha,hb])]
    exact nP l (.mk k n l) 0 a b [] rfl ho.1 ho.2 (by simp;omega)
theorem nP:∀(l:List Tm) (p:Tm) (v:Nat) (a b:Int) (m:List Int),p.sub.drop v=l->p.sub.length<9223372036854775808->OkL l->m.length+yN l≤8192->Evt (fun q=>pU q p a b (v:Int) m) (m++M9 l a b)
 | [],p,v,a,b,m,hd,hl,ho,hn=>by
  refine Evt.succ ?_
  simp only[pU]
  rw[M9]
  exact Evt.ifF (zX hd) (Evt.ret.eq (by simp))
 |t::l,p,v,a,b,m,hd,hl,ho,hn=>by
  refine Evt.succ ?_
  simp only[pU]
  rw[yN]at hn
  have hc:=cP t a b
  refine Evt.ifT (zW hd) (Evt.pure (zS hd) ((dK t a b ho.1 (by omega)).bind (Evt.pure (zZ (by omega)) ?_)))
  rw[zU v (by have:=yC hd;omega)]
  refine(nP l p (v+1) a b _ (zQ hd) hl ho.2 (by simp;omega)).eq ?_
  rw[M9];simp
end
theorem zK{t:Tm}(h:zG t=true):t.nodes≤8192∧t.high≤128∧xS t=true:=by
 unfold zG at h;simp at h;exact⟨h.1.1,h.1.2,h.2⟩
def z8(t:Tm)(a b:Int):List Int:=if zG t=true then wO (jR t a b)else []
theorem zKG(t:Tm)(ho:t.Ok):Evt (fun q=>zIr q t) (z8 t 8 8):=by
 simp only[zIr]
 refine(xB t ho).bind ?_
 unfold z8
 by_cases h:zG t=true
 ·have hs:=zK h
  have:=cP t 8 8
  rw[if_pos h]
  refine Evt.ifT h ((dK t 8 8 ho hs.1).bind (Evt.mk fun q=>?_))
  rw[if_pos (by simp;omega)]
 ·rw[if_neg h];exact Evt.ifF (by simpa using h) Evt.ret
theorem zEI(t:Tm)(ho:t.Ok):Evt (fun q=>zIs q t) (z8 t 6 7):=by
 simp only[zIs]
 refine(xB t ho).bind ?_
 unfold z8
 by_cases h:zG t=true
 ·have hs:=zK h
  have:=cP t 6 7
  rw[if_pos h]
  refine Evt.ifT h ((dK t 6 7 ho hs.1).bind (Evt.mk fun q=>?_))
  rw[if_pos (by simp;omega)]
 ·rw[if_neg h];exact Evt.ifF (by simpa using h) Evt.ret
theorem O9(x:Int):∀l:List Int,x∈pB l↔x∈l
 | []=>by simp[pB]
 | [y]=>by simp[pB]
 |y::z::l=>by
  rw[qI]
  have:=O9 x (z::l)
  split
  ·subst_vars;rw[this];simp
  ·rw[List.mem_cons,this];simp
theorem cQ(x:Int)(l:List Int):x∈wO l↔x∈l:=by
 unfold wO
 rw[O9]
 exact(lR l).mem_iff
theorem C5:∀l:List Int,l.Pairwise (· ≤ ·)->(pB l).Pairwise (· ≤ ·)
 | [],_=>by simp[pB]
 | [y],_=>by simp[pB]
 |y::z::l,h=>by
  rw[qI]
  have h2:=C5 (z::l) (List.pairwise_cons.1 h).2
  split
  ·exact h2
  ·refine List.pairwise_cons.2 ⟨fun w hw=>?_,h2⟩
   exact(List.pairwise_cons.1 h).1 w ((O9 w _).1 hw)
theorem zCj(l:List Int):(wO l).Pairwise (· ≤ ·):=C5 _ (lS l)
theorem zCi:∀(l:List Int) (h:l≠[]),l.Pairwise (· ≤ ·)->∀x∈l,x≤l.getLast h
 | [y],_,_,x,hx=>by simp at hx;simp[hx]
 |y::z::l,_,hp,x,hx=>by
  rw[List.getLast_cons (by simp)]
  have h2:=List.pairwise_cons.1 hp
  rcases List.mem_cons.1 hx with rfl|hx
  ·exact h2.1 _ (List.getLast_mem _)
  ·exact zCi (z::l) (by simp) h2.2 x hx
def oT(t:Tm)(f n:Int):Bool:=zG t&&decide (W8 t 0≤f)&&(jR t 6 7).all fun x=>decide (x<n)
theorem oV(t:Tm)(f n:Int)(ho:t.Ok):Evt (fun q=>O8 q t f n) (oT t f n):=by
 simp only[O8]
 refine(xB t ho).bind ?_
 unfold oT
 by_cases h:zG t=true
 ·have hs:=zK h
  have hlen:=cP t 6 7
  refine Evt.ifT h ((zCl t 0 hs.2.2 (by omega) (by omega)).bind ?_)
  rw[h]
  by_cases h2:W8 t 0>f
  ·exact Evt.ifT (by simpa using h2) (Evt.ret.eq (by simp;omega))
  ·refine Evt.ifF (by simpa using h2) ((zEI t ho).bind ?_)
   have h2':decide (W8 t 0≤f)=true:=by simp;omega
   rw[h2']
   unfold z8
   rw[if_pos h]
   have hr:=N4 (jR t 6 7)
   by_cases h3:wO (jR t 6 7)=[]
   ·refine Evt.ifT (by rw[h3];rfl) (Evt.ret.eq ?_)
    symm
    simp only[Bool.true_and,List.all_eq_true]
    intro x hx
    rw[←cQ,h3]at hx;cases hx
   ·have hpos:0<(wO (jR t 6 7)).length:=List.length_pos_iff.2 h3
    refine Evt.ifF (by simp;omega) (Evt.pure (a:=(wO (jR t 6 7)).getLast h3) ?_ (Evt.ret.eq ?_))
    ·rw[zV (by omega) (by omega)]
     unfold zL
     rw[if_pos (by omega),List.getLast_eq_getElem,show ((wO (jR t 6 7)).length-1:Int).toNat=(wO (jR t 6 7)).length-1 by omega]
     exact List.getElem?_eq_getElem _
    ·have hm:=zCi _ h3 (zCj _)
     rw[Bool.eq_iff_iff]
     simp only[decide_eq_true_eq,Bool.true_and,List.all_eq_true]
     constructor
     ·intro h4 x hx
      have:=hm x ((cQ x _).2 hx)
      omega
     ·intro h4
      exact h4 _ ((cQ _ _).1 (List.getLast_mem h3))
 ·exact Evt.ifF (by simpa using h) (Evt.ret.eq (by simp[h]))
theorem zUH(j:Nat->Value)(ls:List L3)(x:Tm)(u:List AV)(vs:List Value)(o:Own):sV Tryz.prog uW 3000 (.run (inn (inn (lft (rgt (rgt (rgt (bod Tryz.f102)))))))) [] [.val (j 0),.mp 0 0,.mp 1 0,.val (j 3),.sl (zD c3 ls) ls.length (.st 0 3),.mp 2 0,.val (j 6),.val (j 7),.val (j 8),.val (j 9),.val (j 10),.val (j 11),.val (j 12),.val (j 13),.val (j 14),.val (j 15),.val (j 16),.val (j 17),.val (j 18),.val (j 19),.val (j 20),.val (j 21),.val (j 22),.val (j 23),.val (j 24),.val (j 25),.val (j 26),.val (j 27),.val (j 28),.val (j 29),.val (j 30),.val (j 31),.val (j 32),.val (j 33),.val (j 34)] ⟨[(0,.cells u),(1,.cells [ai 0,ai 0,.sl [] 0 .nl]),(2,.cells [ai x.k,ai x.n,.sl (vs.map .val) x.sub.length o])],3,[0],1,[]⟩ [.no,.bit false]=some (.fin (.exit 0),[.val (j 0),.mp 0 0,.mp 1 0,.val (j 3),.sl (zD c3 ls) ls.length (.st 0 3),.mp 2 0,.val (j 6),.mp 2 0,ai x.k,ab false,ab false,.val undef,.val undef,.val undef,.val undef,ab false,.val (j 16),.val (j 17),.val (j 18),.val (j 19),.val (j 20),.val (j 21),.val (j 22),.val (j 23),.val (j 24),.val (j 25),.val (j 26),.val (j 27),.val (j 28),.val (j 29),.val (j 30),.val (j 31),.val (j 32),.val (j 33),.val (j 34)],⟨[(0,.cells u),(1,.cells [ai 0,ai 0,.sl [] 0 .nl]),(2,.cells [ai x.k,ai x.n,.sl (vs.map .val) x.sub.length o])],3,[0],1,[]⟩,[],[.bit (x.k==5) false]):=by kernel_rfl
theorem zUI(j:Nat->Value)(ls:List L3)(x:Tm)(u:List AV)(vs:List Value)(o:Own):(eD Tryz.prog uW (wA (lft (rgt (rgt (rgt (rgt (bod Tryz.f102))))))) ((wA (lft (rgt (rgt (rgt (rgt (bod Tryz.f102))))))).toList.take 1) 0 [.val (j 0),.mp 0 0,.mp 1 0,.val (j 3),.sl (zD c3 ls) ls.length (.st 0 3),.mp 2 0,.val (j 6),.mp 2 0,ai x.k,ab false,ab false,.val undef,.val undef,.val undef,.val undef,ab false,.val (j 16),.val (j 17),.val (j 18),.val (j 19),.val (j 20),.val (j 21),.val (j 22),.val (j 23),.val (j 24),.val (j 25),.val (j 26),.val (j 27),.val (j 28),.val (j 29),.val (j 30),.val (j 31),.val (j 32),.val (j 33),.val (j 34)] ⟨[(0,.cells u),(1,.cells [ai 0,ai 0,.sl [] 0 .nl]),(2,.cells [ai x.k,ai x.n,.sl (vs.map .val) x.sub.length o])],3,[0],1,[]⟩ []).map Prod.snd=some ([.val (j 0),.mp 0 0,.mp 1 0,.val (j 3),.sl (zD c3 ls) ls.length (.st 0 3),.mp 2 0,.val (j 6),.mp 2 0,ai x.k,ab false,ab false,.val undef,.val undef,.val undef,.val undef,ab false,.val (j 16),.val (j 17),.val (j 18),.val (j 19),.val (j 20),.val (j 21),.val (j 22),.val (j 23),.val (j 24),.val (j 25),.val (j 26),.val (j 27),.val (j 28),.val (j 29),.val (j 30),.sl (zD c3 ls) ls.length (.st 0 3),.val (j 32),.val (j 33),.val (j 34)],⟨[(0,.cells u),(1,.cells [ai 0,ai 0,.sl [] 0 .nl]),(2,.cells [ai x.k,ai x.n,.sl (vs.map .val) x.sub.length o])],3,[0],1,[]⟩,[],[]):=by kernel_rfl
theorem zUJ(j i:Nat->Value)(ls:List L3)(l:List Tm)(x:Tm)(u:List AV)(vs:List Value)(o:Own):(eD Tryz.prog uW (wA (lft (rgt (rgt (rgt (rgt (bod Tryz.f102))))))) ((wA (lft (rgt (rgt (rgt (rgt (bod Tryz.f102))))))).toList.drop 2) 2 (eset (tells [(4,.sl (zD zA l.reverse) l.length .no)] (mutEnv [1,2] i [.val (j 0),.mp 0 0,.mp 1 0,.val (j 3),.sl (zD c3 ls) ls.length (.st 0 3),.mp 2 0,.val (j 6),.mp 2 0,ai x.k,ab false,ab false,.val undef,.val undef,.val undef,.val undef,ab false,.val (j 16),.val (j 17),.val (j 18),.val (j 19),.val (j 20),.val (j 21),.val (j 22),.val (j 23),.val (j 24),.val (j 25),.val (j 26),.val (j 27),.val (j 28),.val (j 29),.val (j 30),.sl (zD c3 ls) ls.length (.st 0 3),.val (j 32),.val (j 33),.val (j 34)] 0)) (some 32) (.tup [])) (pJ [1,2] ⟨[(0,.cells u),(1,.cells [ai 0,ai 0,.sl [] 0 .nl]),(2,.cells [ai x.k,ai x.n,.sl (vs.map .val) x.sub.length o])],3,[0],1,[]⟩) []).map Prod.snd=some ([.val (j 0),.val (i 1),.mp 1 0,.val (j 3),.sl (zD zA l.reverse) l.length .no,.mp 2 0,.val (j 6),.mp 2 0,ai x.k,ab false,ab false,.val undef,.val undef,.val undef,.val undef,ab false,.val (j 16),.val (j 17),.val (j 18),.val (j 19),.val (j 20),.val (j 21),.val (j 22),.val (j 23),.val (j 24),.val (j 25),.val (j 26),.val (j 27),.val (j 28),.val (j 29),.val (j 30),.val (i 31),.tup [],.val (j 33),.val (j 34)],⟨[(1,.cells [ai 0,ai 0,.sl [] 0 .nl]),(2,.cells [ai x.k,ai x.n,.sl (vs.map .val) x.sub.length o])],3,[],0,[]⟩,[],[]):=by kernel_rfl
theorem zUK(j i:Nat->Value)(l:List Tm)(x:Tm)(vs:List Value)(o:Own):aD Tryz.prog uW 0 Tryz.f102 3000 (.run (rgt (rgt (rgt (rgt (rgt (bod Tryz.f102))))))) [] [.val (j 0),.val (i 1),.mp 1 0,.val (j 3),.sl (zD zA l.reverse) l.length .no,.mp 2 0,.val (j 6),.mp 2 0,ai x.k,ab false,ab false,.val undef,.val undef,.val undef,.val undef,ab false,.val (j 16),.val (j 17),.val (j 18),.val (j 19),.val (j 20),.val (j 21),.val (j 22),.val (j 23),.val (j 24),.val (j 25),.val (j 26),.val (j 27),.val (j 28),.val (j 29),.val (j 30),.val (i 31),.tup [],.val (j 33),.val (j 34)] ⟨[(1,.cells [ai 0,ai 0,.sl [] 0 .nl]),(2,.cells [ai x.k,ai x.n,.sl (vs.map .val) x.sub.length o])],3,[],0,[]⟩ [.no,.no] [] [] [] false=some (.tup [.agg [ai x.k,ai x.n,.sl (vs.map .val) x.sub.length .no],.sl (zD zA l.reverse) l.length .no],[],[.data (vs.map .val),.data (zD zA l.reverse)]):=by kernel_rfl
theorem zUL(j:Nat->Value)(ls:List L3)(x:Tm)(u:List AV)(vs:List Value)(o:Own):sV Tryz.prog uW 3000 (.run (inn (inn (lft (rgt (rgt (rgt (bod Tryz.f102)))))))) [] [.val (j 0),.mp 0 0,.mp 1 0,.val (j 3),.sl (zD c3 ls) ls.length (.st 0 3),.mp 2 0,.val (j 6),.val (j 7),.val (j 8),.val (j 9),.val (j 10),.val (j 11),.val (j 12),.val (j 13),.val (j 14),.val (j 15),.val (j 16),.val (j 17),.val (j 18),.val (j 19),.val (j 20),.val (j 21),.val (j 22),.val (j 23),.val (j 24),.val (j 25),.val (j 26),.val (j 27),.val (j 28),.val (j 29),.val (j 30),.val (j 31),.val (j 32),.val (j 33),.val (j 34)] ⟨[(0,.cells u),(1,.cells [ai 0,ai 0,.sl [] 0 .nl]),(2,.cells [ai x.k,ai x.n,.sl (vs.map .val) x.sub.length o])],3,[0],1,[]⟩ [.no,.bit true,.no,.no,.bit false]=some (.fin (.exit 0),[.val (j 0),.mp 0 0,.mp 1 0,.val (j 3),.sl (zD c3 ls) ls.length (.st 0 3),.mp 2 0,.val (j 6),.mp 2 0,ai x.k,ab true,ab true,.mp 2 2,.sl (vs.map .val) x.sub.length o,ai (x.sub.length:Int),ab false,ab false,.val (j 16),.val (j 17),.val (j 18),.val (j 19),.val (j 20),.val (j 21),.val (j 22),.val (j 23),.val (j 24),.val (j 25),.val (j 26),.val (j 27),.val (j 28),.val (j 29),.val (j 30),.val (j 31),.val (j 32),.val (j 33),.val (j 34)],⟨[(0,.cells u),(1,.cells [ai 0,ai 0,.sl [] 0 .nl]),(2,.cells [ai x.k,ai x.n,.sl (vs.map .val) x.sub.length o])],3,[0],1,[]⟩,[],[.bit (x.k==5) true,.bit ((x.sub.length:Int)==2) false]):=by kernel_rfl
theorem zUM(j:Nat->Value)(ls:List L3)(x:Tm)(u:List AV)(vs:List Value)(o:Own):(eD Tryz.prog uW (wA (lft (rgt (rgt (rgt (rgt (bod Tryz.f102))))))) ((wA (lft (rgt (rgt (rgt (rgt (bod Tryz.f102))))))).toList.take 1) 0 [.val (j 0),.mp 0 0,.mp 1 0,.val (j 3),.sl (zD c3 ls) ls.length (.st 0 3),.mp 2 0,.val (j 6),.mp 2 0,ai x.k,ab true,ab true,.mp 2 2,.sl (vs.map .val) x.sub.length o,ai (x.sub.length:Int),ab false,ab false,.val (j 16),.val (j 17),.val (j 18),.val (j 19),.val (j 20),.val (j 21),.val (j 22),.val (j 23),.val (j 24),.val (j 25),.val (j 26),.val (j 27),.val (j 28),.val (j 29),.val (j 30),.val (j 31),.val (j 32),.val (j 33),.val (j 34)] ⟨[(0,.cells u),(1,.cells [ai 0,ai 0,.sl [] 0 .nl]),(2,.cells [ai x.k,ai x.n,.sl (vs.map .val) x.sub.length o])],3,[0],1,[]⟩ []).map Prod.snd=some ([.val (j 0),.mp 0 0,.mp 1 0,.val (j 3),.sl (zD c3 ls) ls.length (.st 0 3),.mp 2 0,.val (j 6),.mp 2 0,ai x.k,ab true,ab true,.mp 2 2,.sl (vs.map .val) x.sub.length o,ai (x.sub.length:Int),ab false,ab false,.val (j 16),.val (j 17),.val (j 18),.val (j 19),.val (j 20),.val (j 21),.val (j 22),.val (j 23),.val (j 24),.val (j 25),.val (j 26),.val (j 27),.val (j 28),.val (j 29),.val (j 30),.sl (zD c3 ls) ls.length (.st 0 3),.val (j 32),.val (j 33),.val (j 34)],⟨[(0,.cells u),(1,.cells [ai 0,ai 0,.sl [] 0 .nl]),(2,.cells [ai x.k,ai x.n,.sl (vs.map .val) x.sub.length o])],3,[0],1,[]⟩,[],[]):=by kernel_rfl
theorem zUN(j i:Nat->Value)(ls:List L3)(l:List Tm)(x:Tm)(u:List AV)(vs:List Value)(o:Own):(eD Tryz.prog uW (wA (lft (rgt (rgt (rgt (rgt (bod Tryz.f102))))))) ((wA (lft (rgt (rgt (rgt (rgt (bod Tryz.f102))))))).toList.drop 2) 2 (eset (tells [(4,.sl (zD zA l.reverse) l.length .no)] (mutEnv [1,2] i [.val (j 0),.mp 0 0,.mp 1 0,.val (j 3),.sl (zD c3 ls) ls.length (.st 0 3),.mp 2 0,.val (j 6),.mp 2 0,ai x.k,ab true,ab true,.mp 2 2,.sl (vs.map .val) x.sub.length o,ai (x.sub.length:Int),ab false,ab false,.val (j 16),.val (j 17),.val (j 18),.val (j 19),.val (j 20),.val (j 21),.val (j 22),.val (j 23),.val (j 24),.val (j 25),.val (j 26),.val (j 27),.val (j 28),.val (j 29),.val (j 30),.sl (zD c3 ls) ls.length (.st 0 3),.val (j 32),.val (j 33),.val (j 34)] 0)) (some 32) (.tup [])) (pJ [1,2] ⟨[(0,.cells u),(1,.cells [ai 0,ai 0,.sl [] 0 .nl]),(2,.cells [ai x.k,ai x.n,.sl (vs.map .val) x.sub.length o])],3,[0],1,[]⟩) []).map Prod.snd=some ([.val (j 0),.val (i 1),.mp 1 0,.val (j 3),.sl (zD zA l.reverse) l.length .no,.mp 2 0,.val (j 6),.mp 2 0,ai x.k,ab true,ab true,.mp 2 2,.val (i 12),ai (x.sub.length:Int),ab false,ab false,.val (j 16),.val (j 17),.val (j 18),.val (j 19),.val (j 20),.val (j 21),.val (j 22),.val (j 23),.val (j 24),.val (j 25),.val (j 26),.val (j 27),.val (j 28),.val (j 29),.val (j 30),.val (i 31),.tup [],.val (j 33),.val (j 34)],⟨[(1,.cells [ai 0,ai 0,.sl [] 0 .nl]),(2,.cells [ai x.k,ai x.n,.sl (vs.map .val) x.sub.length o])],3,[],0,[]⟩,[],[]):=by kernel_rfl
theorem zUO(j i:Nat->Value)(l:List Tm)(x:Tm)(vs:List Value)(o:Own):aD Tryz.prog uW 0 Tryz.f102 3000 (.run (rgt (rgt (rgt (rgt (rgt (bod Tryz.f102))))))) [] [.val (j 0),.val (i 1),.mp 1 0,.val (j 3),.sl (zD zA l.reverse) l.length .no,.mp 2 0,.val (j 6),.mp 2 0,ai x.k,ab true,ab true,.mp 2 2,.val (i 12),ai (x.sub.length:Int),ab false,ab false,.val (j 16),.val (j 17),.val (j 18),.val (j 19),.val (j 20),.val (j 21),.val (j 22),.val (j 23),.val (j 24),.val (j 25),.val (j 26),.val (j 27),.val (j 28),.val (j 29),.val (j 30),.val (i 31),.tup [],.val (j 33),.val (j 34)] ⟨[(1,.cells [ai 0,ai 0,.sl [] 0 .nl]),(2,.cells [ai x.k,ai x.n,.sl (vs.map .val) x.sub.length o])],3,[],0,[]⟩ [.no,.no] [] [] [] false=some (.tup [.agg [ai x.k,ai x.n,.sl (vs.map .val) x.sub.length .no],.sl (zD zA l.reverse) l.length .no],[],[.data (vs.map .val),.data (zD zA l.reverse)]):=by kernel_rfl
theorem spC(j:Nat->Value)(p0:Tm)(q0:Option Addr×Nat×Nat)(ls:List L3)(x:Tm)(vs:List Value)(o:Own):aD Tryz.prog uW 0 Tryz.f102 3000 (.run (inn (inn (lft (rgt (rgt (rgt (bod Tryz.f102)))))))) [.loop (inn (inn (lft (rgt (rgt (rgt (bod Tryz.f102))))))),.blk 0,.seq (rgt (rgt (rgt (rgt (bod Tryz.f102)))))] [.val (j 0),.mp 0 0,.mp 1 0,.val (j 3),.sl (zD c3 ls) ls.length (.st 0 3),.mp 2 0,.val (j 6),.val (j 7),.val (j 8),.val (j 9),.val (j 10),.val (j 11),.val (j 12),.val (j 13),.val (j 14),.val (j 15),.val (j 16),.val (j 17),.val (j 18),.val (j 19),.val (j 20),.val (j 21),.val (j 22),.val (j 23),.val (j 24),.val (j 25),.val (j 26),.val (j 27),.val (j 28),.val (j 29),.val (j 30),.val (j 31),.val (j 32),.val (j 33),.val (j 34)] ⟨[(0,.cells [.val (.int .i64 p0.k),.val (.int .i64 p0.n),.val (.slice q0.1 q0.2.1 q0.2.2)]),(1,.cells [ai 0,ai 0,.sl [] 0 .nl]),(2,.cells [ai x.k,ai x.n,.sl (vs.map .val) x.sub.length o])],3,[0],1,[]⟩ [.no,.bit true,.no,.no,.bit true,.no,.bit true,.no,.no] [] [] [] false=some (.tup [.agg [.val (.int .i64 p0.k),.val (.int .i64 p0.n),.val (.slice q0.1 q0.2.1 q0.2.2)],.sl [] 0 .no],[],[.bit (x.k==5) true,.bit ((x.sub.length:Int)==2) true,.bit (decide ((ls.length:Int)≥8192)) true,.data []]):=by kernel_rfl
theorem spD(i j:Nat->Value)(k n:Int)(a b:Tm)(qa qb:Option Addr×Nat×Nat)(u0 u1 u2:Value)(ls ls2:List L3)(o:Own):jP Tryz.prog uW 0 3000 (.run (inn (inn (lft (rgt (rgt (rgt (bod Tryz.f102)))))))) [.loop (inn (inn (lft (rgt (rgt (rgt (bod Tryz.f102))))))),.blk 0,.seq (rgt (rgt (rgt (rgt (bod Tryz.f102)))))] [.val (j 0),.mp 0 0,.mp 1 0,.val (j 3),.sl (zD c3 ls) ls.length (.st 0 3),.mp 2 0,.val (j 6),.val (j 7),.val (j 8),.val (j 9),.val (j 10),.val (j 11),.val (j 12),.val (j 13),.val (j 14),.val (j 15),.val (j 16),.val (j 17),.val (j 18),.val (j 19),.val (j 20),.val (j 21),.val (j 22),.val (j 23),.val (j 24),.val (j 25),.val (j 26),.val (j 27),.val (j 28),.val (j 29),.val (j 30),.val (j 31),.val (j 32),.val (j 33),.val (j 34)] ⟨[(0,.cells [.val u0,.val u1,.val u2]),(1,.cells [ai 0,ai 0,.sl [] 0 .nl]),(2,.cells [ai k,ai n,.sl [.val (.int .i64 a.k),.val (.int .i64 a.n),.val (.slice qa.1 qa.2.1 qa.2.2),.val (.int .i64 b.k),.val (.int .i64 b.n),.val (.slice qb.1 qb.2.1 qb.2.2)] 2 o])],3,[0],1,[]⟩ [.no,.bit true,.no,.no,.bit true,.no,.bit false,.no,.no,.no,.no,.app (zD c3 ls2) ls2.length 3 false,.no,.no,.no,.no] [] [0,1,2] [1] [1,2,4,5] i=some (inn (inn (lft (rgt (rgt (rgt (bod Tryz.f102)))))),[.blk 0,.seq (rgt (rgt (rgt (rgt (bod Tryz.f102)))))],[.val (i 0),.mp 0 0,.mp 1 0,.val (i 3),.sl (zD c3 ls2) ls2.length (.st 0 3),.mp 2 0,.val (i 6),.val (i 7),.val (i 8),.val (i 9),.val (i 10),.val (i 11),.val (i 12),.val (i 13),.val (i 14),.val (i 15),.val (i 16),.val (i 17),.val (i 18),.val (i 19),.val (i 20),.val (i 21),.val (i 22),.val (i 23),.val (i 24),.val (i 25),.val (i 26),.val (i 27),.val (i 28),.val (i 29),.val (i 30),.val (i 31),.val (i 32),.val (i 33),.val (i 34)],⟨[(0,.cells [.val u0,.val u1,.val u2]),(1,.cells [ai 0,ai 0,.sl [] 0 .nl]),(2,.cells [.val (.int .i64 a.k),.val (.int .i64 a.n),.val (.slice qa.1 qa.2.1 qa.2.2)])],3,[0],1,[]⟩,[.bit (k==5) true,.bit ((2:Int)==2) true,.bit (decide ((ls.length:Int)≥8192)) false,.app 30 30 (zD c3 ls) [.val (.int .i64 b.k),.val (.int .i64 b.n),.val (.slice qb.1 qb.2.1 qb.2.2)] (zD c3 ls2) ls.length 1 ls2.length 3 false,.data [],.data (zD c3 ls2)]):=by kernel_rfl
theorem spE(i:Nat->Value)(u0 u1:Int)(u2:Option Addr×Nat×Nat):jP Tryz.prog uW 0 3000 (.run (bod Tryz.f102)) [] ([.agg [.val (.int .i64 u0),.val (.int .i64 u1),.val (.slice u2.1 u2.2.1 u2.2.2)]]++List.replicate (Tryz.f102.ntmps-1) (.val undef)) (st0 []) [.no,.no] [(none,4,3)] [0,1,2] [0] [1,2,4,5] i=some (inn (inn (lft (rgt (rgt (rgt (bod Tryz.f102)))))),[.blk 0,.seq (rgt (rgt (rgt (rgt (bod Tryz.f102)))))],[.val (i 0),.mp 0 0,.mp 1 0,.val (i 3),.sl [] 0 (.st 0 3),.mp 2 0,.val (i 6),.val (i 7),.val (i 8),.val (i 9),.val (i 10),.val (i 11),.val (i 12),.val (i 13),.val (i 14),.val (i 15),.val (i 16),.val (i 17),.val (i 18),.val (i 19),.val (i 20),.val (i 21),.val (i 22),.val (i 23),.val (i 24),.val (i 25),.val (i 26),.val (i 27),.val (i 28),.val (i 29),.val (i 30),.val (i 31),.val (i 32),.val (i 33),.val (i 34)],⟨[(0,.cells [.val (.int .i64 u0),.val (.int .i64 u1),.val (.slice u2.1 u2.2.1 u2.2.2)]),(1,.cells [ai 0,ai 0,.sl [] 0 .nl]),(2,.cells [.val (.int .i64 u0),.val (.int .i64 u1),.val (.slice u2.1 u2.2.1 u2.2.2)])],3,[0],1,[]⟩,[.data [],.data []]):=by kernel_rfl
def sv(x:Tm)(q:Option Addr×Nat×Nat):List Value:=[.int .i64 x.k,.int .i64 x.n,.slice q.1 q.2.1 q.2.2]
def sv3(x:Tm)(q:Option Addr×Nat×Nat):L3:=⟨.int .i64 x.k,.int .i64 x.n,.slice q.1 q.2.1 q.2.2,rfl,rfl,rfl⟩
theorem VL.split{G:Gh}{w:World}:∀(cs bs:List AV) (us:List Value),VL G w (cs++bs) us->∃u1 u2,us=u1++u2∧VL G w cs u1∧VL G w bs u2
 | [],bs,us,h=>⟨[],us,rfl,by simp only[VL],h⟩
 |a::cs,bs,[],h=>by simp only[List.cons_append,VL]at h
 |a::cs,bs,u::us,h=>by
  simp only[List.cons_append,VL]at h
  obtain⟨u1,u2,rfl,h1,h2⟩:=VL.split cs bs us h.2
  exact⟨u::u1,u2,rfl,by simp only[VL];exact⟨h.1,h1⟩,h2⟩
theorem zKH{G:Gh}{w:World}{x:Tm}{us:List Value}(h:VL G w (tmL x) us):∃q,us=sv x q:=by
 unfold tmL at h
 match us,h with
 | [],h=>simp only[VL]at h
 | [_],h=>simp only[VL,and_false]at h
 | [_,_],h=>simp only[VL,and_false]at h
 | [u0,u1,u2],h=>
  simp only[VL,and_true]at h
  obtain⟨h0,h1,h2⟩:=h
  simp only[V]at h0 h1 h2
  obtain⟨cap,_,⟨_,_,_,h,_⟩|⟨b,off,h,_⟩⟩:=h2
  ·obtain⟨p,h⟩:∃p,u2 = .slice p 0 0:=⟨_,h⟩
   exact⟨(p,0,0),by simp[sv,h0,h1,h]⟩
  ·exact⟨(some ⟨b,off,none⟩,x.sub.length,cap),by simp[sv,h0,h1,h]⟩
 |_::_::_::_::_,h=>simp only[VL,and_false]at h
theorem VC.lit{G G':Gh}{w w':World}(b:Nat)(hL:∀o,G.L b o->G'.L b o)(hc:∀o,w'.cell? ⟨b,o,none⟩=w.cell? ⟨b,o,none⟩):∀(vs:List Value) (off:Nat),VC G w (vs.map .val) b off->VC G' w' (vs.map .val) b off
 | [],_,_=>by simp only[List.map_nil,VC]
 |v::vs,off,h=>by
  simp only[List.map_cons,VC]at h ⊢
  obtain⟨h1,⟨u,h2,h3⟩,h4⟩:=h
  exact⟨hL _ h1,⟨u,(hc _).trans h2,by simpa only[V]using h3⟩,VC.lit b hL hc vs (off+1) h4⟩
theorem zTr{G:Gh}{w:World}{vs:List Value}{n:Nat}{o:Own}{u:Value}{es:List AV}(h:V G w (.sl (vs.map .val) n o) u)(he:VL G w es vs):V G w (.sl es n .no) u:=by
 simp only[V]at h ⊢
 obtain⟨cap,hc,⟨h1,h2,h3,h4,_⟩|⟨b,off,h1,h2,_⟩⟩:=h
 ·have hv:vs=[]:=by simpa using h1
  subst hv
  have:=VL.length _ _ he
  exact⟨cap,hc,.inl ⟨List.length_eq_zero_iff.1 this.symm,h2,h3,h4,trivial⟩⟩
 ·refine⟨cap,hc,.inr ⟨b,off,h1,?_,trivial⟩⟩
  obtain⟨us,q1,q2⟩:=VC.cells _ _ _ h2
  have:=VL.litEq _ _ q1
  subst this
  exact VC.of_cells es us b off he (fun i hi=>(VC.cell _ _ _ i (.val us[i]) h2 (by simp[hi])).1) q2
theorem zNa{na:Nb}{G0:Gh}{w:World}(hB:lM na G0){x:Tm}{q:Option Addr×Nat×Nat}(h:VL G0 w (tmL x) (sv x q)) :
  ∃(vs:List Value) (o:Own),VL G0 w (zD zA x.sub) vs∧VL G0 w [ai x.k,ai x.n,.sl (vs.map .val) x.sub.length o] (sv x q)∧Blk.lit (.cells [ai x.k,ai x.n,.sl (vs.map .val) x.sub.length o]):=by
 unfold tmL sv at h
 simp only[VL,and_true]at h
 obtain⟨_,_,h2⟩:=h
 have key:∃(vs:List Value) (o:Own),VL G0 w (zD zA x.sub) vs∧V G0 w (.sl (vs.map .val) x.sub.length o) (.slice q.1 q.2.1 q.2.2) ∧
   ∀(G G':Gh) (w w':World) (u:Value),G'.F=G.F->(∀b o,G.F b->G.L b o->G'.L b o)->(∀b o,G.F b->w'.cell? ⟨b,o,none⟩=w.cell? ⟨b,o,none⟩)->V G w (.sl (vs.map .val) x.sub.length o) u->V G' w' (.sl (vs.map .val) x.sub.length o) u:=by
  simp only[V]at h2
  obtain⟨cap,hc,⟨h1,h2,h3,h4,_⟩|⟨b,off,h1,h2,_⟩⟩:=h2
  ·refine⟨[],.no,by rw[h1];simp only[VL],?_,?_⟩
   ·simp only[V];exact⟨cap,hc,.inl ⟨rfl,h2,h3,h4,trivial⟩⟩
   ·intro G G' w w' u _ _ _ hu
    rw[h2]at hu ⊢
    exact V.none hu
  ·obtain⟨vs,q1,q2⟩:=VC.cells _ _ _ h2
   have hL:∀i,i<vs.length->G0.L b (off+i):=by
    intro i hi
    have hl:=VL.length _ _ q1
    exact(VC.cell _ _ _ i ((zD zA x.sub)[i]'(by omega)) h2 (by rw[List.getElem?_eq_getElem])).1
   have hcl:VC G0 w (vs.map .val) b off:=VC.of_cells _ vs b off (VL.lits vs) hL q2
   by_cases hs:vs=[]
   ·subst hs
    have hl:=VL.length _ _ q1
    have hfl:=vJ qH.len x.sub
    have h0:x.sub.length=0:=by simp at hl;omega
    refine⟨[],.no,q1,?_,?_⟩
    ·simp only[V];exact⟨cap,hc,.inr ⟨b,off,h1,hcl,trivial⟩⟩
    ·intro G G' w w' u _ _ _ hu
     rw[h0]at hu ⊢
     exact V.none hu
   ·have hF:G0.F b:=hB.LF b (off+0) (hL 0 (List.length_pos_iff.2 hs))
    refine⟨vs,.fr,q1,?_,?_⟩
    ·simp only[V];exact⟨cap,hc,.inr ⟨b,off,h1,hcl,hF⟩⟩
    ·intro G G' w w' u e1 e2 e3 hu
     simp only[V]at hu ⊢
     obtain⟨cap',hc',⟨p1,p2,p3,p4,_⟩|⟨b',off',p1,p2,p3⟩⟩:=hu
     ·exact⟨cap',hc',.inl ⟨p1,p2,p3,p4,trivial⟩⟩
     ·have p3':G.F b':=p3
      exact⟨cap',hc',.inr ⟨b',off',p1,VC.lit b' (fun o h=>e2 b' o p3' h) (fun o=>e3 b' o p3') vs off' p2,by show G'.F b';rw[e1];exact p3'⟩⟩
 obtain⟨vs,o,k1,k2,k3⟩:=key
 refine⟨vs,o,k1,?_,?_⟩
 ·simp only[sv,VL,V];simp only[V]at k2;exact⟨trivial,trivial,k2,trivial⟩
 ·intro G G' w w' us e1 e2 e3 hu
  match us,hu with
  | [],hu=>simp only[VL]at hu
  | [_],hu=>simp only[VL,and_false]at hu
  | [_,_],hu=>simp only[VL,and_false]at hu
  | [u0,u1,u2],hu=>
   simp only[VL,and_true]at hu ⊢
   exact⟨by simpa only[V]using hu.1,by simpa only[V]using hu.2.1,k3 G G' w w' u2 e1 e2 e3 hu.2.2⟩
  |_::_::_::_::_,hu=>simp only[VL,and_false]at hu
theorem zTq:Blk.lit (.cells [ai 0,ai 0,.sl [] 0 .nl]):=by
 intro G G' w w' us e1 e2 e3 hu
 match us,hu with
 | [],hu=>simp only[VL]at hu
 | [_],hu=>simp only[VL,and_false]at hu
 | [_,_],hu=>simp only[VL,and_false]at hu
 | [u0,u1,u2],hu=>
  simp only[VL,and_true]at hu ⊢
  refine⟨by simpa only[V]using hu.1,by simpa only[V]using hu.2.1,?_⟩
  have:=hu.2.2
  simp only[V]at this ⊢
  obtain⟨cap,h1,⟨_,_,h2,h3,h4⟩|⟨b,off,h2,_,h3⟩⟩:=this
  ·exact⟨cap,h1,.inl ⟨trivial,trivial,h2,h3,h4⟩⟩
  ·exact h3.elim
 |_::_::_::_::_,hu=>simp only[VL,and_false]at hu
def zRz(G0:Gh)(res:AV)(r:Tm×List Tm):Prop:=∀W G' W',Ext G0 W G' W'->wW G'.F G'.w0 W'->∀u,V G' W' res u->V G' W' (.tup [tmA r.1,.sl (zD zA r.2) (List.length r.2) .no]) u
def qK(p0:Tm):Tm->List Tm->Option (Tm×List Tm)
 | .mk k n [a,b],l=>
  if (k==5)=true then
   if decide ((List.length l:Int)≥8192)=true then some (p0,[])else(yR 40 l [b])>>=fun l2=>qK p0 a l2
  else some (.mk k n [a,b],l.reverse)
 |x,l=>some (x,l.reverse)
def zTp(p0:Tm):Option (Tm×List Tm):=qK p0 p0 []
theorem zKI:∀vs:List Value,AV.DataL (vs.map .val)
 | []=>trivial
 |_::vs=>⟨trivial,zKI vs⟩
theorem VL.rev{G:Gh}{w:World}:∀(l:List Tm) (ls:List L3),VL G w (zD zA l) (tT ls)->ls.length=l.length->VL G w (zD zA l.reverse) (tT ls.reverse)
 | [],[],_,_=>by simp[zD,tT,VL]
 |x::l,y::ls,h,hl=>by
  simp only[zD,tT,List.flatMap_cons]at h
  obtain⟨u1,u2,e,h1,h2⟩:=VL.split _ _ _ h
  have n1:=VL.length _ _ h1
  rw[qH.len]at n1
  obtain⟨rfl,rfl⟩:=List.append_inj e (by rw[n1];rfl)
  have ih:=VL.rev l ls h2 (by simpa using hl)
  simp only[List.reverse_cons,zD,tT,List.flatMap_append,List.flatMap_cons,List.flatMap_nil,List.append_nil]
  exact VL.append _ _ _ _ ih h1
 | [],_::_,_,h=>by simp at h
 |_::_,[],_,h=>by simp at h
theorem y2{na:Nb}{G0:Gh}(hB:lM na G0){x:Tm}{l:List Tm}{vs:List Value}(v1:VL G0 G0.w0 (zD zA x.sub) vs)(hn:na.n=0:=by first|rfl|assumption):zRz G0 (.tup [.agg [ai x.k,ai x.n,.sl (vs.map .val) x.sub.length .no],.sl (zD zA l.reverse) l.length .no]) (x,l.reverse):=by
 intro W G' W' hE hK u hu
 have v:=VL.later hB hE hK v1
 simp only[V,VL]at hu
 obtain⟨us,rfl,hus⟩:=hu
 match us,hus with
 | [],h=>simp only[VL]at h
 | [_],h=>simp only[VL,and_false]at h
 | [ua,ub],h=>
  simp only[VL,and_true]at h
  obtain⟨h1,h2⟩:=h
  simp only[V]at h1
  obtain⟨ws,rfl,hws⟩:=h1
  match ws,hws with
  | [],h=>simp only[VL]at h
  | [_],h=>simp only[VL,and_false]at h
  | [_,_],h=>simp only[VL,and_false]at h
  | [w0,w1,w2],h=>
   simp only[VL,and_true]at h
   obtain⟨g0,g1,g2⟩:=h
   have g3:=zTr g2 v
   simp only[V]
   refine⟨[.agg #[w0,w1,w2],ub],rfl,?_⟩
   simp only[VL,and_true]
   refine⟨?_,by simpa using h2⟩
   simp only[tmA,V]
   exact⟨[w0,w1,w2],rfl,by simp only[tmL,VL,and_true];exact⟨g0,g1,g3⟩⟩
  |_::_::_::_::_,h=>simp only[VL,and_false]at h
 |_::_::_::_,h=>simp only[VL,and_false]at h
theorem zIq{na:Nb}{G0:Gh}(hB:lM na G0){x:Tm}{q:Option Addr×Nat×Nat}(h0:VL G0 G0.w0 (tmL x) (sv x q))(hn:na.n=0:=by first|rfl|assumption):zRz G0 (.tup [.agg [.val (.int .i64 x.k),.val (.int .i64 x.n),.val (.slice q.1 q.2.1 q.2.2)],.sl [] 0 .no]) (x,[]):=by
 intro W G' W' hE hK u hu
 have v:=VL.later hB hE hK h0
 simp only[V,VL]at hu
 obtain⟨us,rfl,hus⟩:=hu
 match us,hus with
 | [],h=>simp only[VL]at h
 | [_],h=>simp only[VL,and_false]at h
 | [ua,ub],h=>
  simp only[VL,and_true]at h
  obtain⟨h1,h2⟩:=h
  simp only[V]at h1
  obtain⟨ws,rfl,hws⟩:=h1
  have hw:ws=sv x q:=VL.litEq (sv x q) ws hws
  subst hw
  simp only[V]
  refine⟨[.agg (sv x q).toArray,ub],rfl,?_⟩
  simp only[VL,and_true]
  refine⟨?_,by simpa[zD]using h2⟩
  simp only[tmA,V]
  exact⟨sv x q,rfl,v⟩
 |_::_::_::_,h=>simp only[VL,and_false]at h
theorem zUP{G0:Gh}{p0 x:Tm}{q0:Option Addr×Nat×Nat}{l:List Tm}{ls:List L3}{vs:List Value}{o:Own}(j:Nat->Value)(hlit:Blk.lit (.cells [ai x.k,ai x.n,.sl (vs.map .val) x.sub.length o]))(hl:VL G0 G0.w0 (zD zA l) (tT ls))(hlen:ls.length=l.length)(h8:l.length≤8192) :
  Dv Tryz.prog (⟨0,fun G=>G=G0⟩:Nb) (rgt (rgt (rgt (rgt (bod Tryz.f102))))) [.val (j 0),.mp 0 0,.mp 1 0,.val (j 3),.sl (zD c3 ls) ls.length (.st 0 3),.mp 2 0,.val (j 6),.mp 2 0,ai x.k,ab false,ab false,.val undef,.val undef,.val undef,.val undef,ab false,.val (j 16),.val (j 17),.val (j 18),.val (j 19),.val (j 20),.val (j 21),.val (j 22),.val (j 23),.val (j 24),.val (j 25),.val (j 26),.val (j 27),.val (j 28),.val (j 29),.val (j 30),.val (j 31),.val (j 32),.val (j 33),.val (j 34)] ⟨[(0,.cells [.val (.int .i64 p0.k),.val (.int .i64 p0.n),.val (.slice q0.1 q0.2.1 q0.2.2)]),(1,.cells [ai 0,ai 0,.sl [] 0 .nl]),(2,.cells [ai x.k,ai x.n,.sl (vs.map .val) x.sub.length o])],3,[0],1,[]⟩ (lP Tryz.prog (⟨0,fun G=>G=G0⟩:Nb) Tryz.f102 (.tup [.agg [ai x.k,ai x.n,.sl (vs.map .val) x.sub.length .no],.sl (zD zA l.reverse) l.length .no]) [] 0):=by
 have k1:knd (rgt (rgt (rgt (rgt (bod Tryz.f102)))))=1:=by kernel_rfl
 have k3:cI (lft (rgt (rgt (rgt (rgt (bod Tryz.f102))))))=true:=by kernel_rfl
 have k4:zAo (wA (lft (rgt (rgt (rgt (rgt (bod Tryz.f102)))))))[1]? = some (some 32,167,#[.tmp 31]):=by kernel_rfl
 have k5:(Tryz.f167.name == "runtime.NumGoroutine")=false:=by kernel_rfl
 have k6:Tryz.f167.body.isNone=false:=by kernel_rfl
 refine Dv.seqP k1 ?_
 obtain⟨id,k7⟩:=zNp k3
 rw[k7]
 refine Dv.mut xI (na:=(⟨0,fun G=>G=G0⟩:Nb)) rfl 1 [1,2] [(4,.sl (zD zA l.reverse) l.length .no)] (.tup []) (zUI j ls x _ vs o) yB.nil k4 Tryz.func167 k5 k6 ?_ ?_ (fun i=>zUJ j i ls l x _ vs o) yB.nil ?_
 ·intro i X hm hX
  have:i=1∨i=2:=by simpa using wB.1 hm
  rcases this with rfl|rfl
  ·cases hX;exact zTq
  ·cases hX;exact hlit
 ·intro G1 W hB' G w hE hR u hu
  have e:=hB'.κ
  subst e
  refine(zBO (l:=ls) hR (by rfl) (by omega) hu).mono ?_
  rintro e w' ⟨v,b,S,e1,e2,e3,e4,e5,e6,e7⟩
  refine⟨v,b,S,e1,e2,e3,e4,e5,fun G' hE' hK' hS=>⟨by subst e6;simp only[V];exact⟨[],rfl,by simp only[VL]⟩,?_⟩⟩
  intro p hp u' hu'
  have hp':=List.mem_singleton.1 hp
  subst hp'
  have:=e7 G' hS _ (VL.later hB' hE' hK' (VL.rev l ls hl hlen)) u' hu'
  rw[hlen]at this
  exact this
 ·intro i
  exact iU (na:=(⟨0,fun G=>G=G0⟩:Nb)) xI mixed (zUK j i l x vs o) (yB.cons (rG (zKI vs)) (yB.cons (rG (dT _)) yB.nil)) (by decide)
theorem zUQ{G0:Gh}{p0 x:Tm}{q0:Option Addr×Nat×Nat}{l:List Tm}{ls:List L3}{vs:List Value}{o:Own}(j:Nat->Value)(hlit:Blk.lit (.cells [ai x.k,ai x.n,.sl (vs.map .val) x.sub.length o]))(hl:VL G0 G0.w0 (zD zA l) (tT ls))(hlen:ls.length=l.length)(h8:l.length≤8192) :
  Dv Tryz.prog (⟨0,fun G=>G=G0⟩:Nb) (rgt (rgt (rgt (rgt (bod Tryz.f102))))) [.val (j 0),.mp 0 0,.mp 1 0,.val (j 3),.sl (zD c3 ls) ls.length (.st 0 3),.mp 2 0,.val (j 6),.mp 2 0,ai x.k,ab true,ab true,.mp 2 2,.sl (vs.map .val) x.sub.length o,ai (x.sub.length:Int),ab false,ab false,.val (j 16),.val (j 17),.val (j 18),.val (j 19),.val (j 20),.val (j 21),.val (j 22),.val (j 23),.val (j 24),.val (j 25),.val (j 26),.val (j 27),.val (j 28),.val (j 29),.val (j 30),.val (j 31),.val (j 32),.val (j 33),.val (j 34)] ⟨[(0,.cells [.val (.int .i64 p0.k),.val (.int .i64 p0.n),.val (.slice q0.1 q0.2.1 q0.2.2)]),(1,.cells [ai 0,ai 0,.sl [] 0 .nl]),(2,.cells [ai x.k,ai x.n,.sl (vs.map .val) x.sub.length o])],3,[0],1,[]⟩ (lP Tryz.prog (⟨0,fun G=>G=G0⟩:Nb) Tryz.f102 (.tup [.agg [ai x.k,ai x.n,.sl (vs.map .val) x.sub.length .no],.sl (zD zA l.reverse) l.length .no]) [] 0):=by
 have k1:knd (rgt (rgt (rgt (rgt (bod Tryz.f102)))))=1:=by kernel_rfl
 have k3:cI (lft (rgt (rgt (rgt (rgt (bod Tryz.f102))))))=true:=by kernel_rfl
 have k4:zAo (wA (lft (rgt (rgt (rgt (rgt (bod Tryz.f102)))))))[1]? = some (some 32,167,#[.tmp 31]):=by kernel_rfl
 have k5:(Tryz.f167.name == "runtime.NumGoroutine")=false:=by kernel_rfl
 have k6:Tryz.f167.body.isNone=false:=by kernel_rfl
 refine Dv.seqP k1 ?_
 obtain⟨id,k7⟩:=zNp k3
 rw[k7]
 refine Dv.mut xI (na:=(⟨0,fun G=>G=G0⟩:Nb)) rfl 1 [1,2] [(4,.sl (zD zA l.reverse) l.length .no)] (.tup []) (zUM j ls x _ vs o) yB.nil k4 Tryz.func167 k5 k6 ?_ ?_ (fun i=>zUN j i ls l x _ vs o) yB.nil ?_
 ·intro i X hm hX
  have:i=1∨i=2:=by simpa using wB.1 hm
  rcases this with rfl|rfl
  ·cases hX;exact zTq
  ·cases hX;exact hlit
 ·intro G1 W hB' G w hE hR u hu
  have e:=hB'.κ
  subst e
  refine(zBO (l:=ls) hR (by rfl) (by omega) hu).mono ?_
  rintro e w' ⟨v,b,S,e1,e2,e3,e4,e5,e6,e7⟩
  refine⟨v,b,S,e1,e2,e3,e4,e5,fun G' hE' hK' hS=>⟨by subst e6;simp only[V];exact⟨[],rfl,by simp only[VL]⟩,?_⟩⟩
  intro p hp u' hu'
  have hp':=List.mem_singleton.1 hp
  subst hp'
  have:=e7 G' hS _ (VL.later hB' hE' hK' (VL.rev l ls hl hlen)) u' hu'
  rw[hlen]at this
  exact this
 ·intro i
  exact iU (na:=(⟨0,fun G=>G=G0⟩:Nb)) xI mixed (zUO j i l x vs o) (yB.cons (rG (zKI vs)) (yB.cons (rG (dT _)) yB.nil)) (by decide)
theorem zTo{l m r:List L3}(h:yR 40 l m=some r)(hm:m.length≠0):Ob.ok Tryz.prog (.app 30 30 (zD c3 l) (zD c3 m) (zD c3 r) l.length m.length r.length 3 false):=uM zEa Tryz.underlying30 jV rfl rfl rfl (by decide) rfl (by decide) h hm
theorem y4{p0 x:Tm}{l:List Tm}{r:Tm×List Tm}(h:qK p0 x l=some r)(hx:¬((x.k==5)=true∧x.sub.length=2)):r=(x,l.reverse):=by
 obtain⟨k,n,sub⟩:=x
 unfold qK at h
 split at h
 ·rename_i k' n' a b e
  cases e
  split at h
  ·rename_i hk
   exact(hx ⟨hk,rfl⟩).elim
  ·cases h;rfl
 ·cases h;rfl
theorem zEJ{p0:Tm}{q0:Option Addr×Nat×Nat}{G0:Gh}(hB:lM (⟨0,fun G=>G=G0⟩:Nb) G0)(h0:VL G0 G0.w0 (tmL p0) (sv p0 q0)):∀(N:Nat) (x:Tm) (l:List Tm) (r:Tm×List Tm) (hN:SizeOf.sizeOf x≤N) (h:qK p0 x l=some r) (h8:l.length≤8192) (q:Option Addr×Nat×Nat) (ls:List L3)
  (hx:VL G0 G0.w0 (tmL x) (sv x q)) (hl:VL G0 G0.w0 (zD zA l) (tT ls)) (hlen:ls.length=l.length),∃res,zRz G0 res r∧∀j:Nat->Value,Dl Tryz.prog (⟨0,fun G=>G=G0⟩:Nb) (inn (inn (lft (rgt (rgt (rgt (bod Tryz.f102))))))) [.val (j 0),.mp 0 0,.mp 1 0,.val (j 3),.sl (zD c3 ls) ls.length (.st 0 3),.mp 2 0,.val (j 6),.val (j 7),.val (j 8),.val (j 9),.val (j 10),.val (j 11),.val (j 12),.val (j 13),.val (j 14),.val (j 15),.val (j 16),.val (j 17),.val (j 18),.val (j 19),.val (j 20),.val (j 21),.val (j 22),.val (j 23),.val (j 24),.val (j 25),.val (j 26),.val (j 27),.val (j 28),.val (j 29),.val (j 30),.val (j 31),.val (j 32),.val (j 33),.val (j 34)] ⟨[(0,.cells [.val (.int .i64 p0.k),.val (.int .i64 p0.n),.val (.slice q0.1 q0.2.1 q0.2.2)]),(1,.cells [ai 0,ai 0,.sl [] 0 .nl]),(2,.cells [.val (.int .i64 x.k),.val (.int .i64 x.n),.val (.slice q.1 q.2.1 q.2.2)])],3,[0],1,[]⟩ (wD Tryz.prog (⟨0,fun G=>G=G0⟩:Nb) (lP Tryz.prog (⟨0,fun G=>G=G0⟩:Nb) Tryz.f102 res [] 0) [.blk 0,.seq (rgt (rgt (rgt (rgt (bod Tryz.f102)))))]):=by
 intro N
 induction N with
 |zero=>
  intro x l r hN
  obtain⟨k,n,sub⟩:=x
  simp at hN
 |succ N spine_ih=>
 intro x l r hN h h8 q ls hx hl hlen
 obtain⟨vs,o,v1,v2,v3⟩:=zNa hB hx
 have hopen:∀ {res:AV} (j:Nat->Value),Dl Tryz.prog (⟨0,fun G=>G=G0⟩:Nb) (inn (inn (lft (rgt (rgt (rgt (bod Tryz.f102))))))) [.val (j 0),.mp 0 0,.mp 1 0,.val (j 3),.sl (zD c3 ls) ls.length (.st 0 3),.mp 2 0,.val (j 6),.val (j 7),.val (j 8),.val (j 9),.val (j 10),.val (j 11),.val (j 12),.val (j 13),.val (j 14),.val (j 15),.val (j 16),.val (j 17),.val (j 18),.val (j 19),.val (j 20),.val (j 21),.val (j 22),.val (j 23),.val (j 24),.val (j 25),.val (j 26),.val (j 27),.val (j 28),.val (j 29),.val (j 30),.val (j 31),.val (j 32),.val (j 33),.val (j 34)] ⟨[(0,.cells [.val (.int .i64 p0.k),.val (.int .i64 p0.n),.val (.slice q0.1 q0.2.1 q0.2.2)]),(1,.cells [ai 0,ai 0,.sl [] 0 .nl]),(2,.cells [ai x.k,ai x.n,.sl (vs.map .val) x.sub.length o])],3,[0],1,[]⟩ (wD Tryz.prog (⟨0,fun G=>G=G0⟩:Nb) (lP Tryz.prog (⟨0,fun G=>G=G0⟩:Nb) Tryz.f102 res [] 0) [.blk 0,.seq (rgt (rgt (rgt (rgt (bod Tryz.f102)))))])->Dl Tryz.prog (⟨0,fun G=>G=G0⟩:Nb) (inn (inn (lft (rgt (rgt (rgt (bod Tryz.f102))))))) [.val (j 0),.mp 0 0,.mp 1 0,.val (j 3),.sl (zD c3 ls) ls.length (.st 0 3),.mp 2 0,.val (j 6),.val (j 7),.val (j 8),.val (j 9),.val (j 10),.val (j 11),.val (j 12),.val (j 13),.val (j 14),.val (j 15),.val (j 16),.val (j 17),.val (j 18),.val (j 19),.val (j 20),.val (j 21),.val (j 22),.val (j 23),.val (j 24),.val (j 25),.val (j 26),.val (j 27),.val (j 28),.val (j 29),.val (j 30),.val (j 31),.val (j 32),.val (j 33),.val (j 34)] ⟨[(0,.cells [.val (.int .i64 p0.k),.val (.int .i64 p0.n),.val (.slice q0.1 q0.2.1 q0.2.2)]),(1,.cells [ai 0,ai 0,.sl [] 0 .nl]),(2,.cells [.val (.int .i64 x.k),.val (.int .i64 x.n),.val (.slice q.1 q.2.1 q.2.2)])],3,[0],1,[]⟩ (wD Tryz.prog (⟨0,fun G=>G=G0⟩:Nb) (lP Tryz.prog (⟨0,fun G=>G=G0⟩:Nb) Tryz.f102 res [] 0) [.blk 0,.seq (rgt (rgt (rgt (rgt (bod Tryz.f102)))))]):=by
  intro res j hd
  refine Dl.openB (b:=2) (cs:=[.val (.int .i64 x.k),.val (.int .i64 x.n),.val (.slice q.1 q.2.1 q.2.2)]) (cs':=[ai x.k,ai x.n,.sl (vs.map .val) x.sub.length o]) rfl (fun G1 W hB' G w hE hK us hus=>?_) hd
  have e:=hB'.κ
  subst e
  have hu:us=sv x q:=VL.litEq (sv x q) us hus
  subst hu
  exact VL.later hB' hE hK v2
 by_cases hk:(x.k==5)=true
 ·by_cases h2:x.sub.length=2
  ·obtain⟨k,n,sub⟩:=x
   match sub,h2 with
   | [a,b],_=>
   rw[qK]at h
   replace h:=ifT hk h
   rcases O4 (decide ((List.length l:Int)≥8192))with h3|h3
   ·replace h:=ifT h3 h
    cases h
    exact⟨_,zIq hB h0,fun j=>hopen j (Dl.toFin (na:=(⟨0,fun G=>G=G0⟩:Nb)) xI mixed 3000 _ _ _ _ _ (spC j p0 q0 ls (.mk k n [a,b]) vs o) (yB.cons (mS hk) (yB.cons (mS rfl) (yB.cons (mS (by rw[hlen];exact h3)) (yB.cons (rG trivial) yB.nil)))) (by decide))⟩
   ·replace h:=ifF h3 h
    obtain⟨l2,hg,h⟩:=oO h
    obtain⟨hg1,rfl⟩:=tL hg
    have w1:VL G0 G0.w0 (zA a++(zA b++[])) vs:=v1
    obtain⟨ua,u2,rfl,wa,w2⟩:=VL.split _ _ _ w1
    obtain⟨ub,u3,rfl,wb,w3⟩:=VL.split _ _ _ w2
    have e3:u3=[]:=by
     have:=VL.length _ _ w3
     exact List.length_eq_zero_iff.1 this
    subst e3
    rw[xH]at wa wb
    obtain⟨qa,rfl⟩:=zKH wa
    obtain⟨qb,rfl⟩:=zKH wb
    have h3':List.length l<8192:=by
     have:=of_decide_eq_false h3
     omega
    have hl2:VL G0 G0.w0 (zD zA (l++[b])) (tT (ls++[sv3 b qb])):=by
     simp only[zD,tT,List.flatMap_append,List.flatMap_cons,List.flatMap_nil,List.append_nil]
     refine VL.append _ _ _ _ hl ?_
     rw[xH];exact wb
    have hga:yR 40 ls [sv3 b qb]=some (ls++[sv3 b qb]):=by
     unfold yR
     rw[if_pos]
     simp only[List.length_cons,List.length_nil]at hg1 ⊢
     rw[hlen];exact hg1
    obtain⟨res,hgood,hdl⟩:=spine_ih a (l++[b]) r (by simp at hN;omega) h (by simp;omega) qa (ls++[sv3 b qb]) wa hl2 (by simp[hlen])
    refine⟨res,hgood,fun j=>hopen j (Dl.toHead (na:=(⟨0,fun G=>G=G0⟩:Nb)) xI mixed 3000 _ _ _ _ _ (fun i=>spD i j k n a b qa qb _ _ _ ls (ls++[sv3 b qb]) o) ?_ fun i=>hdl i)⟩
    exact yB.cons (mS hk) (yB.cons (mS rfl) (yB.cons (mS (by rw[hlen];exact h3)) (yB.cons (zTo (m:=[sv3 b qb]) hga (by simp)) (yB.cons (rG trivial) (yB.cons (rG (vF zEa.data _)) yB.nil)))))
  ·have hr:=y4 h (fun e=>h2 e.2)
   subst hr
   refine⟨.tup [.agg [ai x.k,ai x.n,.sl (vs.map .val) x.sub.length .no],.sl (zD zA l.reverse) l.length .no],y2 hB v1,fun j=>hopen j (Dl.step ?_)⟩
   have hx1:=zUQ (G0:=G0) (p0:=p0) (q0:=q0) j v3 hl hlen h8
   refine qS (Q:=_) xI mixed 3000 (.run (inn (inn (lft (rgt (rgt (rgt (bod Tryz.f102)))))))) [] _ _ _ _ _ _ _ _ (zUL j ls x _ vs o) (yB.cons (mS hk) (yB.cons (mS (by simp;omega)) yB.nil)) ?_
   simp only[KQ,zEk,wD,bZ,if_true]
   exact hx1
 ·have hr:=y4 h (fun e=>hk e.1)
  subst hr
  ·refine⟨.tup [.agg [ai x.k,ai x.n,.sl (vs.map .val) x.sub.length .no],.sl (zD zA l.reverse) l.length .no],y2 hB v1,fun j=>hopen j (Dl.step ?_)⟩
   have hx1:=zUP (G0:=G0) (p0:=p0) (q0:=q0) j v3 hl hlen h8
   refine qS (Q:=_) xI mixed 3000 (.run (inn (inn (lft (rgt (rgt (rgt (bod Tryz.f102)))))))) [] _ _ _ _ _ _ _ _ (zUH j ls x _ vs o) (yB.cons (mS (by simpa using hk)) yB.nil) ?_
   simp only[KQ,zEk,wD,bZ,if_true]
   exact hx1
theorem zRy{p0:Tm}{r:Tm×List Tm}(h:zTp p0=some r):CT Tryz.prog 102 [] [tmA p0] (.tup [tmA r.1,.sl (zD zA r.2) (List.length r.2) .no]) [] 0:=by
 refine⟨?_,⟨⟨trivial,trivial,⟨trivial,dT _⟩,trivial⟩,trivial⟩,(fun _ h=>nomatch h),⟨⟨trivial,trivial,dT _,trivial⟩,dT _,trivial⟩,(fun _ h=>nomatch h)⟩
 intro G0 W cargs hB hR hv
 cases hc:cargs.toList with
 |nil=>rw[hc]at hv;simp only[VL]at hv
 |cons u us=>
  rw[hc]at hv
  simp only[VL]at hv
  obtain⟨hu,hus⟩:=hv
  have hus':us=[]:=by
   have:=VL.length _ _ hus
   exact List.length_eq_zero_iff.1 this
  subst hus'
  simp only[tmA,V]at hu
  obtain⟨ws,rfl,hws⟩:=hu
  obtain⟨q0,rfl⟩:=zKH hws
  have hBK:lM (⟨0,fun G=>G=G0⟩:Nb) G0:=⟨hB.ρ,hB.τ,hB.LF,rfl⟩
  have h0:=VL.back hB hR hws
  obtain⟨res,hgood,hdl⟩:=zEJ hBK h0 _ p0 [] r (Nat.le_refl _) h (by simp) q0 [] h0 (by simp[zD,tT,VL]) rfl
  have hv2:VL G0 W [.agg [.val (.int .i64 p0.k),.val (.int .i64 p0.n),.val (.slice q0.1 q0.2.1 q0.2.2)]] cargs.toList:=by
   rw[hc]
   simp only[VL,V,and_true]
   exact⟨sv p0 q0,rfl,VL.lits (sv p0 q0)⟩
  have hb:=zNr (na:=(⟨0,fun G=>G=G0⟩:Nb)) (res:=res) (H1:=[]) (nst:=0) rfl Tryz.func102 (by kernel_rfl) (M2 (na:=(⟨0,fun G=>G=G0⟩:Nb)) (m:=.run (bod Tryz.f102)) (fs:=[]) xI mixed (fun i=>spE i p0.k p0.n q0) (yB.cons (rG trivial) (yB.cons (rG trivial) yB.nil)) fun i=>hdl i) hBK hR hv2
  refine hb.mono ?_
  rintro e W' ⟨u,G',s',rfl,hE,hR',hu,h1,h2⟩
  exact⟨u,G',s',rfl,hE,hR',hgood W G' W' hE hR'.below u hu,h1,h2⟩
def jX(_qq:Nat)(p0:Tm):Option (Tm×List Tm):=zTp p0
theorem zTn{qq:Nat}{p0:Tm}{r:Tm×List Tm}(h:jX qq p0=some r):CT Tryz.prog 102 [] [tmA p0] (.tup [tmA r.1,.sl (zD zA r.2) (List.length r.2) .no]) [] 0:=zRy h
theorem E8{qq:Nat}{p0:Tm}:Cz (jX qq p0) 102 [] [tmA p0] (fun r=>.tup [tmA r.1,.sl (zD zA r.2) (List.length r.2) .no]) (fun _=>[]) 0:=fun _ h=>zTn h
def zCh(qq:Nat)(p0 p1:Int)(p2:List Tm):Option (Tm):=
 some (Tm.mk p0 p1 p2)
theorem zEK{qq p0 p1 p2}:Cz (zCh qq p0 p1 p2) 188 [] [ai p0,ai p1,slv zA p2 .no] (fun r=>tmA r) (fun _=>[]) 0:=fw Tryz.func188<|fE 1
def kY(qq:Nat)(p0 p1:Tm):Option (Tm):=
 zCh qq 5 0 [p0,p1]>>=fun r1=>
 some r1
theorem nH{qq p0 p1}:Cz (kY qq p0 p1) 131 [] [tmA p0,tmA p1] (fun r=>tmA r) (fun _=>[]) 0:=fw Tryz.func131<|rS (oS 2 (yV xH [p0,p1]))<|rC 0 [] zEK fun _=>fE 1
mutual
def zIp:Nat->Tm->Option (Tm)
 |0,_=>none
 |qq+1,p0=>
 gC qq p0 0 []
def gC:Nat->Tm->Int->(List Tm)->Option (Tm)
 |0,_,_,_=>none
 |qq+1,p0,v14,sK=>
 if decide (v14<(List.length p0.sub:Int))then
 zL p0.sub v14>>=fun x2=>
 zIp qq x2>>=fun r4=>
 yR 40 sK [r4]>>=fun l6=>
 gC qq p0 (w64 (v14+1)) l6
 else
 some (Tm.mk p0.k p0.n sK)
end
theorem zCg:∀qq:Nat,(∀p0,Cz (zIp qq p0) 162 [] [tmA p0] (fun r=>tmA r) (fun _=>[]) 0)∧(∀p0 v14 sK,Lz (gC qq p0 v14 sK) 0 Tryz.f162 (inn (inn (rgt (lft (rgt (rgt (bod Tryz.f162))))))) (fun j=>sp j 27 0 [(2,.mp 0 0),(3,.mp 1 0),(12,slv zA p0.sub .no),(13,ai (List.length p0.sub:Int)),(14,ai v14)]) ⟨[(0,.cells [ai 0,ai 0,slv zA ([]:List Tm) .nl]),(1,.cells [ai p0.k,ai p0.n,slv zA sK (.st 0 3)])],2,[0],1,[]⟩ (fun r=>tmA r) (fun _=>[]) 0 [.blk 0,.seq (rgt (rgt (rgt (bod Tryz.f162))))]):=yW ⟨fun _=>cN,fun _ _ _=>lN⟩ fun qq ih=>⟨fun p0=>fw Tryz.func162<|fH 5 [(some 2,2,3)] [1,2] [0] [2,3,12,13,14] (ih.2 _ _ _),
 fun p0 v14 sK=>lw fun _=>rB 0 (rA 0 (yM (o:=.no)) fun _=>rS (oCl 2)<|rC 1 [] (ih.1 _) fun r4=>rS (oS 0 (yV xH [r4]))<|rW (fun h7=>oP 0 (xU h7 (by simp))) fun _=>lH 2 [] [0,1] [1] [2,3,12,13,14] (ih.2 _ _ _))<|lE 2⟩
theorem zUR{qq p0}:Cz (zIp qq p0) 162 [] [tmA p0] (fun r=>tmA r) (fun _=>[]) 0:=(zCg _).1 _
def gD:Nat->(List Tm)->Int->Int->Int->(List Tm)->Option (Tm)
 |0,_,_,_,_,_=>none
 |qq+1,p1,v9,zR,yA,zN=>
 if decide (v9<(List.length p1:Int))then
 zL p1 v9>>=fun x2=>
 kY qq (Tm.mk zR yA zN) x2>>=fun r4=>
 gD qq p1 (w64 (v9+1)) r4.k r4.n r4.sub
 else
 some (Tm.mk zR yA zN)
def nI(qq:Nat)(p0:Tm)(p1:List Tm):Option (Tm):=
 gD qq p1 0 p0.k p0.n p0.sub
theorem zNA:∀qq:Nat,∀p1 v9 zR yA zN,Lz (gD qq p1 v9 zR yA zN) 0 Tryz.f189 (inn (inn (rgt (lft (rgt (bod Tryz.f189)))))) (fun j=>sp j 18 0 [(2,.mp 0 0),(4,.mp 1 0),(7,slv zA p1 .no),(8,ai (List.length p1:Int)),(9,ai v9)]) ⟨[(0,.cells [ai zR,ai yA,slv zA zN .no]),(1,.cells [ai 0,ai 0,slv zA ([]:List Tm) .nl])],2,[],0,[]⟩ (fun r=>tmA r) (fun _=>[]) 0 [.blk 0,.seq (rgt (rgt (bod Tryz.f189)))]:=yW (fun _ _ _ _ _=>lN) fun qq ih=>fun p1 v9 zR yA zN=>lw fun _=>rB 0 (rA 0 (yM (o:=.no)) fun _=>rC 4 [] nH fun _=>lH 2 [] [0,1] [] [2,4,7,8,9] (ih _ _ _ _ _))<|lE 2
theorem pV{qq p0 p1}:Cz (nI qq p0 p1) 189 [] [tmA p0,slv zA p1 .no] (fun r=>tmA r) (fun _=>[]) 0:=fw Tryz.func189<|fH 1 [] [0,1] [] [2,4,7,8,9] (zNA _ _ _ _ _ _)
def e96(qq:Nat)(p0:Tm):Option (Tm):=
 tV qq p0>>=fun r1=>
 if r1 then
 zIp qq p0>>=fun r4=>
 some r4
 else
 some (Tm.mk 0 0 [])
theorem c96{qq p0}:Cz (e96 qq p0) 96 [] [tmA p0] (fun r=>tmA r) (fun _=>[]) 0:=fw Tryz.func96<|rK 1 [] sW (fun _=>rC 2 [] zUR fun _=>fE 1) fun _=>fE 2
theorem uI(t:Tm):Tm.mk t.k t.n t.sub=t:=by cases t;rfl
theorem P0{α:Type}{l:List α}{v:Nat}{x:α}{r:List α}(h:l.drop v=x::r):l.take (v+1)=l.take v++[x]:=by
 have:l[v]? = some x:=by
  have:=congrArg (fun z=>z[0]?) h
  simpa using this
 rw[List.take_add_one,this];rfl
mutual
theorem y6:∀(t:Tm),xS t=true->Evt (fun q=>zIp q t) t
 | .mk k n l,hg=>by
  refine Evt.succ ?_
  simp only[zIp]
  have hh:=wQ hg
  exact P1 l (.mk k n l) 0 [] rfl hh.2 (by have:=(lX hh.1).2.2.2.2;exact this) rfl
theorem P1:∀(l:List Tm) (p:Tm) (v:Nat) (acc:List Tm),p.sub.drop v=l->pN l=true->p.sub.length≤2->acc=p.sub.take v->Evt (fun q=>gC q p (v:Int) acc) p
 | [],p,v,acc,hd,hg,hl,ha=>by
  refine Evt.succ ?_
  simp only[gC]
  refine Evt.ifF (zX hd) (Evt.ret.eq ?_)
  have:p.sub.length≤v:=List.drop_eq_nil_iff.1 hd
  rw[ha,List.take_of_length_le this,uI]
 |t::l,p,v,acc,hd,hg,hl,ha=>by
  have hlt:=yC hd
  have hc:=wP hg
  refine Evt.succ ?_
  simp only[gC]
  refine Evt.ifT (zW hd) (Evt.pure (zS hd) ((y6 t hc.1).bind (Evt.pure (zZ (by rw[ha];simp<;>omega)) ?_)))
  rw[zU v (by omega)]
  exact P1 l p (v+1) _ (zQ hd) hc.2 hl (by rw[ha,P0 hd])
end
def mT(t:Tm):Tm:=if zG t=true then t else .mk 0 0 []
theorem pW(t:Tm)(ho:t.Ok):Evt (fun q=>e96 q t) (mT t):=by
 simp only[e96]
 refine(xB t ho).bind ?_
 unfold mT
 by_cases h:zG t=true
 ·rw[if_pos h];exact Evt.ifT h ((y6 t (zK h).2.2).bind Evt.ret)
 ·rw[if_neg h];exact Evt.ifF (by simpa using h) Evt.ret
def hdT:Tm->Tm
 | .mk k n [a,b]=>if k=5 then hdT a else .mk k n [a,b]
 |x=>x
def arT:Tm->List Tm
 | .mk k _ [a,b]=>if k=5 then arT a++[b]else []
 |_=>[]
theorem zNB{l:List Tm}(h:l.length=2):∃a b,l=[a,b]:=by
 rcases l with _|⟨a,_|⟨b,_|⟨c,l⟩⟩⟩<;>simp at h
 exact⟨a,b,rfl⟩
theorem zAi(n:Int)(a b:Tm):hdT (.mk 5 n [a,b])=hdT a:=by rw[hdT];simp
theorem I5(n:Int)(a b:Tm):arT (.mk 5 n [a,b])=arT a++[b]:=by rw[arT];simp
theorem zAh{t:Tm}(h:t.k≠5):hdT t=t:=by
 unfold hdT
 split
 ·exact if_neg h
 ·rfl
theorem I6{t:Tm}(h:t.k≠5):arT t=[]:=by
 unfold arT
 split
 ·exact if_neg h
 ·rfl
theorem I7{P:Tm->Prop}(h0:∀t,xS t=true->t.k≠5->P t)(h1:∀n a b,xS (.mk 5 n [a,b])=true->xS a=true->xS b=true->P a->P (.mk 5 n [a,b])):∀t:Tm,xS t=true->P t:=by
 intro t
 induction hn:t.nodes using Nat.strongRecOn generalizing t with
 |ind m ih=>
  intro hg
  by_cases h:t.k=5
  ·obtain⟨k,n,l⟩:=t
   have hh:=wQ hg
   have hs:=sI hh.1
   simp only[Tm.k]at h
   subst h
   obtain⟨a,b,rfl⟩:=zNB (hs.2.2.2.2.2.1 (.inr (.inr rfl))).1
   have hc:=wP hh.2
   have hc2:=wP hc.2
   refine h1 n a b hg hc.1 hc2.1 (ih a.nodes ?_ a rfl hc.1)
   rw[Tm.nodes,yN]at hn;omega
  ·exact h0 t hg h
theorem zKJ(p0:Tm):∀t:Tm,xS t=true->∀l:List Tm,l.length+t.nodes≤8192->qK p0 t l=some (hdT t,arT t++l.reverse):=by
 refine I7 ?_ ?_
 ·intro t hg hk l hl
  rw[zAh hk,I6 hk]
  obtain⟨k,n,ls⟩:=t
  replace hk:¬k=5:=hk
  rcases ls with _|⟨a,_|⟨b,_|⟨c,ls⟩⟩⟩<;>unfold qK<;>simp[hk]
 ·intro n a b hg ha hb ih l hl
  rw[Tm.nodes,yN,yN,yN]at hl
  rw[zAi,I5]
  unfold qK
  rw[zNm (show ((5:Int)==5)=true from rfl),zKq (by simp<;>omega),zZ (by simp<;>omega)]
  show qK p0 a (l++[b])=_
  rw[ih (l++[b]) (by simp<;>omega)]
  simp
theorem rJ(t:Tm)(hs:zG t=true):Evt (fun q=>jX q t) (hdT t,arT t):=by
 refine Evt.mk fun q=>?_
 have h:=zK hs
 show qK t t []=_
 rw[zKJ t t h.2.2 [] (by simpa using h.1)];simp
theorem zAg:∀t:Tm,xS t=true->xS (hdT t)=true∧(hdT t).k≠5∧(hdT t).nodes≤t.nodes∧(hdT t).high≤t.high∧∀x∈arT t,xS x=true∧x.nodes<t.nodes∧x.high<t.high:=by
 refine I7 ?_ ?_
 ·intro t hg hk
  rw[zAh hk,I6 hk]
  exact⟨hg,hk,Nat.le_refl _,Nat.le_refl _,fun x hx=>by cases hx⟩
 ·intro n a b hg ha hb ih
  rw[zAi,I5]
  simp only[Tm.nodes,yN,Tm.high,rY]
  refine⟨ih.1,ih.2.1,by omega,by omega,fun x hx=>?_⟩
  rcases List.mem_append.1 hx with hx|hx
  ·have:=ih.2.2.2.2 x hx;exact⟨this.1,by omega,by omega⟩
  ·simp at hx;subst hx;exact⟨hb,by omega,by omega⟩
theorem oY{t:Tm}(h1:t.nodes≤8192)(h2:t.high≤128)(h3:xS t=true):zG t=true:=by
 unfold zG;simp[h1,h2,h3]
theorem xP{t x:Tm}(h:zG t=true)(hx:x∈arT t):zG x=true:=by
 have hs:=zK h
 have:=(zAg t hs.2.2).2.2.2.2 x hx
 exact oY (by omega) (by omega) this.1
theorem sL{t:Tm}(h:zG t=true):zG (hdT t)=true:=by
 have hs:=zK h
 have:=zAg t hs.2.2
 exact oY (by omega) (by omega) this.1
theorem sA:∀t:Tm,xS t=true->(arT t).length<t.nodes:=by
 refine I7 ?_ ?_
 ·intro t hg hk
  rw[I6 hk];have:=xZ t;simp;omega
 ·intro n a b hg ha hb ih
  rw[I5,Tm.nodes,yN,yN,yN];simp;omega
def apT(f:Tm):List Tm->Tm
 | []=>f
 |a::l=>apT (.mk 5 0 [f,a]) l
theorem pM(f a:Tm):Evt (fun q=>kY q f a) (.mk 5 0 [f,a]):=Evt.mk fun _=>rfl
theorem w5:∀(l p:List Tm) (v:Nat) (f:Tm),p.drop v=l->p.length<9223372036854775808->Evt (fun q=>gD q p (v:Int) f.k f.n f.sub) (apT f l)
 | [],p,v,f,hd,hl=>by
  refine Evt.succ ?_
  simp only[gD]
  exact Evt.ifF (zX hd) (Evt.ret.eq (by rw[uI,apT]))
 |a::l,p,v,f,hd,hl=>by
  have hlt:=yC hd
  refine Evt.succ ?_
  simp only[gD]
  rw[uI]
  refine Evt.ifT (zW hd) (Evt.pure (zS hd) ((pM f a).bind ?_))
  rw[zU v (by omega),apT]
  exact w5 l p (v+1) (.mk 5 0 [f,a]) (zQ hd) hl
theorem vA(f:Tm)(l:List Tm)(h:l.length<9223372036854775808):Evt (fun q=>nI q f l) (apT f l):=by
 simp only[nI]
 exact w5 l l 0 f rfl h
theorem uQ:∀(l:List Tm) (f:Tm),f.Ok->(∀x∈l,x.Ok)->(apT f l).Ok
 | [],f,hf,_=>by rw[apT];exact hf
 |a::l,f,hf,hl=>by
  rw[apT]
  refine uQ l _ ?_ fun x hx=>hl x (by simp[hx])
  rw[Tm.Ok,OkL,OkL,OkL]
  exact⟨by simp,hf,hl a (by simp),trivial⟩
def P2(qq:Nat)(p0:Int):Option (Tm):=
 zCh qq 2 p0 []>>=fun r1=>
 some r1
theorem zCf{qq p0}:Cz (P2 qq p0) 129 [] [ai p0] (fun r=>tmA r) (fun _=>[]) 0:=fw Tryz.func129<|rC 0 [] zEK fun _=>fE 1
def dL(qq:Nat)(p0:Int):Option (Tm):=
 zCh qq 1 p0 []>>=fun r1=>
 some r1
theorem jY{qq p0}:Cz (dL qq p0) 132 [] [ai p0] (fun r=>tmA r) (fun _=>[]) 0:=fw Tryz.func132<|rC 0 [] zEK fun _=>fE 1
def zKK(qq:Nat)(p0:Int):Option (Bool):=
 if decide (p0≥0)then
 some (decide (p0≤1048576))
 else
 some false
theorem zTm{qq p0}:Cz (zKK qq p0) 318 [] [ai p0] (fun r=>ab r) (fun _=>[]) 0:=fw Tryz.func318<|rB 0 (fE 1)<|fE 0
def P3(qq:Nat)(p0 q1 q2:Int):Option (Int):=
 if decide (p0<q1)then
 some p0
 else
 some (w64 (p0+q2))
theorem zKL{qq p0 q1 q2}:Cz (P3 qq p0 q1 q2) 320 [.cells [ai q1],.cells [ai q2]] [ai p0,.mp 0 0,.mp 1 0] (fun r=>ai r) (fun _=>[.cells [ai q1],.cells [ai q2]]) 0:=fw Tryz.func320<|rB 1 (fE 0)<|fE 2
mutual
def pC:Nat->Tm->Int->Int->Int->Option (Tm)
 |0,_,_,_,_=>none
 |qq+1,p0,p1,q2,q3=>
 if p0.k==1 then
 if decide (p0.n≥p1)then
 P3 qq (w64 (p0.n-p1)) q2 q3>>=fun r3=>
 dL qq (w64 (r3+p1))>>=fun r5=>
 some r5
 else
 dL qq p0.n>>=fun r7=>
 some r7
 else
 vR qq p0 p1 q2 q3 0 []
def vR:Nat->Tm->Int->Int->Int->Int->(List Tm)->Option (Tm)
 |0,_,_,_,_,_,_=>none
 |qq+1,p0,p1,q2,q3,v38,oZ=>
 if decide (v38<(List.length p0.sub:Int))then
 zL p0.sub v38>>=fun x10=>
 if v38==1 then
 if p0.k != 5 then
 pC qq x10 (w64 (p1+1)) q2 q3>>=fun r14=>
 yR 40 oZ [r14]>>=fun l16=>
 vR qq p0 p1 q2 q3 (w64 (v38+1)) l16
 else
 pC qq x10 p1 q2 q3>>=fun r18=>
 yR 40 oZ [r18]>>=fun l20=>
 vR qq p0 p1 q2 q3 (w64 (v38+1)) l20
 else
 pC qq x10 p1 q2 q3>>=fun r22=>
 yR 40 oZ [r22]>>=fun l24=>
 vR qq p0 p1 q2 q3 (w64 (v38+1)) l24
 else
 some (Tm.mk p0.k p0.n oZ)
end
theorem eE:∀qq:Nat,(∀p0 p1 q2 q3,Cz (pC qq p0 p1 q2 q3) 319 [.cells [ai q2],.cells [ai q3]] [tmA p0,ai p1,.clo 320 [] [.mp 0 0,.mp 1 0]] (fun r=>tmA r) (fun _=>[.cells [ai q2],.cells [ai q3]]) 0)∧(∀p0 p1 q2 q3 v38 oZ,Lz (vR qq p0 p1 q2 q3 v38 oZ) 2 Tryz.f319 (inn (inn (rgt (lft (rgt (rgt (rgt (bod Tryz.f319)))))))) (fun j=>sp j 64 0 [(1,ai p1),(2,.clo 320 [] [.mp 0 0,.mp 1 0]),(3,.mp 2 0),(6,.mp 3 0),(7,.mp 4 0),(36,slv zA p0.sub .no),(37,ai (List.length p0.sub:Int)),(38,ai v38)]) ⟨[(0,.cells [ai q2]),(1,.cells [ai q3]),(2,.cells [ai p0.k,ai p0.n,slv zA p0.sub .no]),(3,.cells [ai 0,ai 0,slv zA ([]:List Tm) .nl]),(4,.cells [ai p0.k,ai p0.n,slv zA oZ (.st 0 3)])],5,[0],1,[]⟩ (fun r=>tmA r) (fun _=>[.cells [ai q2],.cells [ai q3]]) 0 [.blk 0,.seq (rgt (rgt (rgt (rgt (bod Tryz.f319)))))]):=yW ⟨fun _ _ _ _=>cN,fun _ _ _ _ _ _=>lN⟩ fun qq ih=>⟨fun p0 p1 q2 q3=>fw Tryz.func319<|rB 1 (rB 1 (rC 2 [0,1] zKL fun _=>rC 1 [] jY fun _=>fE 1)<|rC 1 [] jY fun _=>fE 1)<|fH 5 [(some 4,2,3)] [0,1,2,3,4] [0] [1,2,3,6,7,36,37,38] (ih.2 _ _ _ _ _ _),
 fun p0 p1 q2 q3 v38 oZ=>lw fun _=>rB 0 (rA 0 (yM (o:=.no)) fun _=>rB 2 (rB 1 (rS (oCl 1)<|rC 1 [0,1] (ih.1 _ _ _ _) fun r14=>rS (oS 0 (yV xH [r14]))<|rW (fun h17=>oP 0 (xU h17 (by simp))) fun _=>lH 2 [] [0,1,2,3,4] [1] [1,2,3,6,7,36,37,38] (ih.2 _ _ _ _ _ _))<|rS (oCl 0)<|rC 1 [0,1] (ih.1 _ _ _ _) fun r18=>rS (oS 0 (yV xH [r18]))<|rW (fun h21=>oP 0 (xU h21 (by simp))) fun _=>lH 2 [] [0,1,2,3,4] [1] [1,2,3,6,7,36,37,38] (ih.2 _ _ _ _ _ _))<|rS (oCl 0)<|rC 1 [0,1] (ih.1 _ _ _ _) fun r22=>rS (oS 0 (yV xH [r22]))<|rW (fun h25=>oP 0 (xU h25 (by simp))) fun _=>lH 2 [] [0,1,2,3,4] [1] [1,2,3,6,7,36,37,38] (ih.2 _ _ _ _ _ _))<|lE 2⟩
theorem zKM{qq p0 p1 q2 q3}:Cz (pC qq p0 p1 q2 q3) 319 [.cells [ai q2],.cells [ai q3]] [tmA p0,ai p1,.clo 320 [] [.mp 0 0,.mp 1 0]] (fun r=>tmA r) (fun _=>[.cells [ai q2],.cells [ai q3]]) 0:=(eE _).1 _ _ _ _
def zKN(qq:Nat)(p0:Tm)(p1 p2:Int):Option (Tm×Int):=
 tV qq p0>>=fun r1=>
 if r1 then
 zKK qq p1>>=fun r4=>
 if r4 then
 zKK qq p2>>=fun r7=>
 if r7 then
 pC qq p0 0 p2 p1>>=fun r10=>
 tV qq r10>>=fun r12=>
 if r12 then
 some (r10,0)
 else
 some ((Tm.mk 0 0 []),2)
 else
 some ((Tm.mk 0 0 []),5)
 else
 some ((Tm.mk 0 0 []),5)
 else
 some ((Tm.mk 0 0 []),5)
theorem zTl{qq p0 p1 p2}:Cz (zKN qq p0 p1 p2) 294 [] [tmA p0,ai p1,ai p2] (fun r=>.tup [tmA r.1,ai r.2]) (fun _=>[]) 0:=fw Tryz.func294<|rK 1 [] sW (fun _=>rK 2 [] zTm (fun _=>rK 2 [] zTm (fun _=>rC 2 [2,1] zKM fun _=>rK 2 [] sW (fun _=>fE 3) fun _=>fE 2) fun _=>fE 2) fun _=>fE 2) fun _=>fE 2
def zCe(qq:Nat)(p0:Tm)(p1:Int):Option (Tm×Int):=
 zKN qq p0 p1 0>>=fun r1=>
 some (r1.1,r1.2)
theorem zKO{qq p0 p1}:Cz (zCe qq p0 p1) 252 [] [tmA p0,ai p1] (fun r=>.tup [tmA r.1,ai r.2]) (fun _=>[]) 0:=fw Tryz.func252<|rC 1 [] zTl fun _=>fE 3
def tO(k:Int)(i:Nat)(b:Int):Int:=if i=1∧k≠5 then b+1 else b
mutual
def lfT:Tm->Int->Int->Int->Tm
 | .mk kd n l,b,c,k=>if kd=1 then .mk 1 (if b≤n then(if n-b<c then n-b else n-b+k)+b else n) []else .mk kd n (lfL l kd 0 b c k)
def lfL:List Tm->Int->Nat->Int->Int->Int->List Tm
 | [],_,_,_,_,_=>[]
 |t::l,kd,i,b,c,k=>lfT t (tO kd i b) c k::lfL l kd (i+1) b c k
end
theorem zGH:∀(l:List Tm) (kd:Int) (i:Nat) (b c k:Int),(lfL l kd i b c k).length=l.length
 | [],_,_,_,_,_=>by rw[lfL]
 |t::l,kd,i,b,c,k=>by rw[lfL];exact congrArg (· + 1) (zGH l kd (i+1) b c k)
theorem qL(n:Int):Evt (fun q=>dL q n) (.mk 1 n []):=Evt.mk fun _=>rfl
theorem lY(n:Int):Evt (fun q=>P2 q n) (.mk 2 n []):=Evt.mk fun _=>rfl
mutual
theorem I8:∀(t:Tm) (b c k:Int),xS t=true->0≤b->b+t.high≤1152921504606846976->0≤c->c≤1048576->0≤k->k≤1048576->Evt (fun q=>pC q t b c k) (lfT t b c k)
 | .mk kd n l,b,c,k,hg,hb,hb2,hc,hc2,hk,hk2=>by
  refine Evt.succ ?_
  simp only[pC]
  have hh:=wQ hg
  have hn:=lX hh.1
  rw[Tm.high]at hb2
  rw[lfT]
  by_cases h1:kd=1
  ·rw[if_pos h1]
   refine Evt.ifT (by simpa[Tm.k]using h1) ?_
   simp only[Tm.n]
   by_cases h2:n≥b
   ·refine Evt.ifT (by simpa using h2) ?_
    rw[if_pos h2,zV (x:=n-b) (by omega) (by omega)]
    refine Evt.bind (a:=if n-b<c then n-b else n-b+k) ?_ ?_
    ·refine Evt.mk fun q=>?_
     unfold P3
     by_cases h3:n-b<c
     ·simp[h3]
     ·simp[h3];exact zV (by omega) (by omega)
    ·rw[zV (by split<;>omega) (by split<;>omega)]
     exact(qL _).bind Evt.ret
   ·refine Evt.ifF (by simpa using h2) ?_
    rw[if_neg h2]
    exact(qL _).bind Evt.ret
  ·rw[if_neg h1]
   refine Evt.ifF (by simpa[Tm.k]using h1) ?_
   exact zCd l (.mk kd n l) 0 b c k [] rfl hh.2 (by have:=hn.2.2.2.2;exact this) hb (by omega) hc hc2 hk hk2 (by simp)
theorem zCd:∀(l:List Tm) (p:Tm) (v:Nat) (b c k:Int) (acc:List Tm),p.sub.drop v=l->pN l=true->p.sub.length≤2->0≤b->b+1+rY l≤1152921504606846976->0≤c->c≤1048576->0≤k->k≤1048576->acc.length≤v ->
  Evt (fun q=>vR q p b c k (v:Int) acc) (.mk p.k p.n (acc++lfL l p.k v b c k))
 | [],p,v,b,c,k,acc,hd,hg,hl,hb,hb2,hc,hc2,hk,hk2,ha=>by
  refine Evt.succ ?_
  simp only[vR]
  exact Evt.ifF (zX hd) (Evt.ret.eq (by rw[lfL];simp))
 |t::l,p,v,b,c,k,acc,hd,hg,hl,hb,hb2,hc,hc2,hk,hk2,ha=>by
  have hlt:=yC hd
  have hgc:=wP hg
  rw[rY]at hb2
  refine Evt.succ ?_
  simp only[vR]
  refine Evt.ifT (zW hd) (Evt.pure (zS hd) ?_)
  have next:∀(x:Tm),Evt (fun q=>yR 40 acc [x]>>=fun l16=>vR q p b c k (w64 ((v:Int)+1)) l16) (.mk p.k p.n (acc++x::lfL l p.k (v+1) b c k)):=fun x=>by
   refine Evt.pure (zZ (by simp<;>omega)) ?_
   rw[zU v (by omega)]
   refine(zCd l p (v+1) b c k (acc++[x]) (zQ hd) hgc.2 hl hb (by omega) hc hc2 hk hk2 (by simp<;>omega)).eq (by simp)
  rw[lfL]
  by_cases h1:v=1
  ·subst h1
   refine Evt.ifT rfl ?_
   by_cases h5:p.k=5
   ·refine Evt.ifF (by simp[h5]) ?_
    have e:tO p.k 1 b=b:=by unfold tO;simp[h5]
    rw[e]
    exact(I8 t b c k hgc.1 hb (by omega) hc hc2 hk hk2).bind (next _)
   ·refine Evt.ifT (by simp[h5]) ?_
    have e:tO p.k 1 b=b+1:=by unfold tO;simp[h5]
    rw[e,zV (x:=b+1) (by omega) (by omega)]
    exact(I8 t (b+1) c k hgc.1 (by omega) (by omega) hc hc2 hk hk2).bind (next _)
  ·refine Evt.ifF (by simp<;>omega) ?_
   have e:tO p.k v b=b:=by unfold tO;simp[h1]
   rw[e]
   exact(I8 t b c k hgc.1 hb (by omega) hc hc2 hk hk2).bind (next _)
end
mutual
theorem zEL:∀(t:Tm) (b c k:Int),t.Ok->(lfT t b c k).Ok
 | .mk kd n l,b,c,k,h=>by
  rw[lfT]
  split
  ·rw[Tm.Ok,OkL];simp
  ·rw[Tm.Ok]at h ⊢
   rw[zGH]
   exact⟨h.1,zKP l kd 0 b c k h.2⟩
theorem zKP:∀(l:List Tm) (kd:Int) (i:Nat) (b c k:Int),OkL l->OkL (lfL l kd i b c k)
 | [],_,_,_,_,_,_=>by rw[lfL,OkL];trivial
 |t::l,kd,i,b,c,k,h=>by
  rw[OkL]at h
  rw[lfL,OkL]
  exact⟨zEL t _ c k h.1,zKP l kd (i+1) b c k h.2⟩
end
def eN(n:Int):Bool:=decide (0≤n)&&decide (n≤1048576)
theorem zGI(n:Int):Evt (fun q=>zKK q n) (eN n):=by
 refine Evt.mk fun q=>?_
 unfold zKK eN
 by_cases h:n≥0
 ·rw[zNm (decide_eq_true h)];simp[show 0≤n from h]
 ·rw[zKq (decide_eq_false h)];simp[show ¬0≤n from h]
def zT:Tm:=.mk 0 0 []
def vE(t:Tm)(k c:Int):Tm×Int:=
 if zG t=true∧eN k=true∧eN c=true then(if zG (lfT t 0 c k)=true then(lfT t 0 c k,0)else(zT,2))else(zT,5)
theorem zGJ(t:Tm)(k c:Int)(ho:t.Ok):Evt (fun q=>zKN q t k c) (vE t k c):=by
 simp only[zKN]
 refine(xB t ho).bind ?_
 unfold vE
 by_cases h1:zG t=true
 ·refine Evt.ifT h1 ((zGI k).bind ?_)
  by_cases h2:eN k=true
  ·refine Evt.ifT h2 ((zGI c).bind ?_)
   by_cases h3:eN c=true
   ·rw[if_pos ⟨h1,h2,h3⟩]
    have hs:=zK h1
    have h2':=h2;have h3':=h3
    unfold eN at h2' h3'
    simp only[Bool.and_eq_true,decide_eq_true_eq]at h2' h3'
    refine Evt.ifT h3 ((I8 t 0 c k hs.2.2 (by omega) (by omega) h3'.1 h3'.2 h2'.1 h2'.2).bind ((xB _ (zEL t 0 c k ho)).bind ?_))
    by_cases h4:zG (lfT t 0 c k)=true
    ·rw[if_pos h4,if_pos h4];exact Evt.ret
    ·rw[if_neg h4,if_neg h4];exact Evt.ret
   ·rw[if_neg (fun h=>h3 h.2.2)];exact Evt.ifF (by simpa using h3) Evt.ret
  ·rw[if_neg (fun h=>h2 h.2.1)];exact Evt.ifF (by simpa using h2) Evt.ret
 ·rw[if_neg (fun h=>h1 h.1)];exact Evt.ifF (by simpa using h1) Evt.ret
theorem jZ(t:Tm)(k c:Int)(ho:t.Ok):(vE t k c).1.Ok:=by
 have hz:zT.Ok:=by unfold zT;rw[Tm.Ok,OkL];simp
 unfold vE
 split
 ·split
  ·exact zEL t 0 c k ho
  ·exact hz
 ·exact hz
theorem zCc(t:Tm)(k:Int)(ho:t.Ok):Evt (fun q=>zCe q t k) (vE t k 0):=by
 simp only[zCe]
 exact(zGJ t k 0 ho).bind Evt.ret
def raT(a:Tm)(by' left:Int)(long:Bool):Tm×Int×Bool:=
 if left-szT a 0<0 then(.mk 2 0 [],left-szT a 0,true)
 else if (vE a by' 0).2≠0 then(.mk 2 0 [],left-szT a 0,true)else((vE a by' 0).1,left-szT a 0,long)
mutual
def sbT(ls:List Tm):Tm->Int->Int->Bool->Tm×Int×Bool
 | .mk kd n l,b,left,long=>
  if long=true then(.mk 2 0 [],left,long)
  else if kd=1∧b≤n then
   (if h:(n-b).toNat<ls.length then raT (ls[(n-b).toNat]) b left long else(.mk 1 (n-ls.length) [],left,long))
  else
   let r:=sbL ls l kd 0 b (left-1) (decide (left-1<0))
   (.mk kd n r.1,r.2.1,r.2.2)
def sbL(ls:List Tm):List Tm->Int->Nat->Int->Int->Bool->List Tm×Int×Bool
 | [],_,_,_,left,long=>([],left,long)
 |t::l,kd,i,b,left,long=>
  let x:=sbT ls t (tO kd i b) left long
  let r:=sbL ls l kd (i+1) b x.2.1 x.2.2
  (x.1::r.1,r.2.1,r.2.2)
end
def nA(left:Int)(long:Bool):Prop:=-8193≤left∧left≤8192∧(long=false->0≤left)
theorem zKQ{a:Tm}{by' left:Int}(h:nA left false):nA (raT a by' left false).2.1 (raT a by' left false).2.2:=by
 have:=zBK a 0 (by omega) (by omega)
 have h0:=h.2.2 rfl
 have h1:=h.2.1
 unfold raT nA
 split
 ·exact⟨by simp only;omega,by simp only;omega,fun h=>by cases h⟩
 ·split
  ·exact⟨by simp only;omega,by simp only;omega,fun h=>by cases h⟩
  ·exact⟨by simp only;omega,by simp only;omega,fun _=>by simp only;omega⟩
def zCb(qq:Nat)(q0:Int)(q1:Bool)(q2:List Tm):Option (Unit):=
 some ()
theorem zKR{qq q0 q1 q2}:Cz (zCb qq q0 q1 q2) 288 [.cells [ai q0,ab q1,.val .nilFunc],.cells [slv zA q2 .no]] [.mp 0 0,.mp 1 0] (fun _=>.clo 289 [] [.mp 1 0,.mp 2 0]) (fun _=>[.cells [ai q0,ab q1,.val .nilFunc],.cells [slv zA q2 .no],.cells [.mp 0 0]]) 0:=fw Tryz.func288<|fF 0 [0,1,2]
def zNC(qq:Nat)(p0:Tm)(p1:Int):Option (Int):=
 if p0.k != 1 then
 some (-1)
 else
 if decide (p0.n<p1)then
 some (-1)
 else
 some (w64 (p0.n-p1))
theorem zUS{qq p0 p1}:Cz (zNC qq p0 p1) 290 [] [tmA p0,ai p1] (fun r=>ai r) (fun _=>[]) 0:=fw Tryz.func290<|rB 1 (fE 0)<|rB 1 (fE 0)<|fE 2
def cR(qq:Nat)(q0:Int)(q1:Bool)(q2:List Tm)(p1:Tm)(p2:Int):Option (Tm×Int×Bool):=
 zKC qq p1>>=fun r1=>
 if decide ((w64 (q0-r1))<0)then
 P2 qq 0>>=fun r4=>
 some (r4,(w64 (q0-r1)),true)
 else
 zCe qq p1 p2>>=fun r6=>
 if r6.2 != 0 then
 P2 qq 0>>=fun r9=>
 some (r9,(w64 (q0-r1)),true)
 else
 some (r6.1,(w64 (q0-r1)),q1)
theorem zKS{qq q0 q1 q2 p1 p2}:Cz (cR qq q0 q1 q2 p1 p2) 291 [.cells [ai q0,ab q1,.clo 289 [] [.mp 1 0,.mp 2 0]],.cells [slv zA q2 .no],.cells [.mp 0 0]] [.mp 0 0,tmA p1,ai p2] (fun r=>tmA r.1) (fun r=>[.cells [ai r.2.1,ab r.2.2,.clo 289 [] [.mp 1 0,.mp 2 0]],.cells [slv zA q2 .no],.cells [.mp 0 0]]) 0:=fw Tryz.func291<|rS (oCl 0)<|rC 1 [] zTw fun _=>rB 3 (rC 1 [] zCf fun _=>fE 1)<|rC 1 [] zKO fun _=>rB 3 (rC 1 [] zCf fun _=>fE 1)<|fE 2
def mU(qq:Nat)(p0:Tm)(p1:Int)(q2:List Tm)(q3:Int)(q4:Bool):Option (Tm×Bool×Int×Bool):=
 zNC qq p0 p1>>=fun r1=>
 if decide (r1<0)then
 some ((Tm.mk 0 0 []),false,q3,q4)
 else
 if decide (r1<(List.length q2:Int))then
 zL q2 r1>>=fun x5=>
 cR qq q3 q4 q2 x5 p1>>=fun r7=>
 some (r7.1,true,r7.2.1,r7.2.2)
 else
 dL qq (w64 (p0.n-(List.length q2:Int)))>>=fun r9=>
 some (r9,true,q3,q4)
theorem zKT{qq p0 p1 q2 q3 q4}:Cz (mU qq p0 p1 q2 q3 q4) 289 [.cells [slv zA q2 .no],.cells [.mp 2 0],.cells [ai q3,ab q4,.clo 289 [] [.mp 0 0,.mp 1 0]]] [tmA p0,ai p1,.mp 0 0,.mp 1 0] (fun r=>.tup [tmA r.1,ab r.2.1]) (fun r=>[.cells [slv zA q2 .no],.cells [.mp 2 0],.cells [ai r.2.2.1,ab r.2.2.2,.clo 289 [] [.mp 0 0,.mp 1 0]]]) 0:=fw Tryz.func289<|rC 1 [] zUS fun _=>rB 0 (fE 1)<|rB 2 (rA 2 (yM (o:=.no)) fun _=>rC 1 [2,0,1] zKS fun _=>fE 1)<|rC 4 [] jY fun _=>fE 1
mutual
def pD:Nat->Int->Bool->(List Tm)->Tm->Int->Option (Tm×Int×Bool)
 |0,_,_,_,_,_=>none
 |qq+1,q0,q1,q2,p1,p2=>
 if q1 then
 P2 qq 0>>=fun r2=>
 some (r2,q0,q1)
 else
 mU qq p1 p2 q2 q0 q1>>=fun r4=>
 if r4.2.1 then
 some (r4.1,r4.2.2.1,r4.2.2.2)
 else
 if decide ((w64 (r4.2.2.1-1))<0)then
 wR qq q2 p1 p2 0 (w64 (r4.2.2.1-1)) true []
 else
 wR qq q2 p1 p2 0 (w64 (r4.2.2.1-1)) r4.2.2.2 []
def wR:Nat->(List Tm)->Tm->Int->Int->Int->Bool->(List Tm)->Option (Tm×Int×Bool)
 |0,_,_,_,_,_,_,_=>none
 |qq+1,q2,p1,p2,v53,zR,yA,C6=>
 if decide (v53<(List.length p1.sub:Int))then
 zL p1.sub v53>>=fun x9=>
 if v53==1 then
 if p1.k != 5 then
 pD qq zR yA q2 x9 (w64 (p2+1))>>=fun r13=>
 yR 40 C6 [r13.1]>>=fun l15=>
 wR qq q2 p1 p2 (w64 (v53+1)) r13.2.1 r13.2.2 l15
 else
 pD qq zR yA q2 x9 p2>>=fun r17=>
 yR 40 C6 [r17.1]>>=fun l19=>
 wR qq q2 p1 p2 (w64 (v53+1)) r17.2.1 r17.2.2 l19
 else
 pD qq zR yA q2 x9 p2>>=fun r21=>
 yR 40 C6 [r21.1]>>=fun l23=>
 wR qq q2 p1 p2 (w64 (v53+1)) r21.2.1 r21.2.2 l23
 else
 some ((Tm.mk p1.k p1.n C6),zR,yA)
end
theorem eF:∀qq:Nat,(∀q0 q1 q2 p1 p2,Cz (pD qq q0 q1 q2 p1 p2) 315 [.cells [ai q0,ab q1,.clo 289 [] [.mp 1 0,.mp 2 0]],.cells [slv zA q2 .no],.cells [.mp 0 0]] [.mp 0 0,tmA p1,ai p2] (fun r=>tmA r.1) (fun r=>[.cells [ai r.2.1,ab r.2.2,.clo 289 [] [.mp 1 0,.mp 2 0]],.cells [slv zA q2 .no],.cells [.mp 0 0]]) 0)∧(∀q2 p1 p2 v53 zR yA C6,Lz (wR qq q2 p1 p2 v53 zR yA C6) 3 Tryz.f315 (inn (inn (rgt (lft (rgt (rgt (rgt (rgt (rgt (bod Tryz.f315)))))))))) (fun j=>sp j 79 0 [(0,.mp 0 0),(2,ai p2),(4,.mp 3 0),(6,.mp 4 0),(9,.mp 5 0),(51,slv zA p1.sub .no),(52,ai (List.length p1.sub:Int)),(53,ai v53)]) ⟨[(0,.cells [ai zR,ab yA,.clo 289 [] [.mp 1 0,.mp 2 0]]),(1,.cells [slv zA q2 .no]),(2,.cells [.mp 0 0]),(3,.cells [ai p1.k,ai p1.n,slv zA p1.sub .no]),(4,.cells [ai 0,ai 0,slv zA ([]:List Tm) .nl]),(5,.cells [ai p1.k,ai p1.n,slv zA C6 (.st 0 3)])],6,[0],1,[]⟩ (fun r=>tmA r.1) (fun r=>[.cells [ai r.2.1,ab r.2.2,.clo 289 [] [.mp 1 0,.mp 2 0]],.cells [slv zA q2 .no],.cells [.mp 0 0]]) 0 [.blk 0,.seq (rgt (rgt (rgt (rgt (rgt (rgt (bod Tryz.f315)))))))]):=yW ⟨fun _ _ _ _ _=>cN,fun _ _ _ _ _ _ _=>lN⟩ fun qq ih=>⟨fun q0 q1 q2 p1 p2=>fw Tryz.func315<|rB 0 (rC 0 [] zCf fun _=>fE 1)<|rC 2 [1,2,0] zKT fun _=>rB 1 (fE 3)<|rB 5 (fH 6 [(some 6,2,3)] [0,1,2,3,4,6] [0] [0,2,4,6,9,51,52,53] (ih.2 _ _ _ _ _ _ _))<|fH 5 [(some 6,2,3)] [0,1,2,3,4,6] [0] [0,2,4,6,9,51,52,53] (ih.2 _ _ _ _ _ _ _),
 fun q2 p1 p2 v53 zR yA C6=>lw fun _=>rB 0 (rA 0 (yM (o:=.no)) fun _=>rB 2 (rB 1 (rS (oCl 1)<|rC 1 [0,1,2] (ih.1 _ _ _ _ _) fun r13=>rS (oS 0 (yV xH [r13.1]))<|rW (fun h16=>oP 0 (xU h16 (by simp))) fun _=>lH 2 [] [0,1,2,3,4,5] [1] [0,2,4,6,9,51,52,53] (ih.2 _ _ _ _ _ _ _))<|rS (oCl 0)<|rC 1 [0,1,2] (ih.1 _ _ _ _ _) fun r17=>rS (oS 0 (yV xH [r17.1]))<|rW (fun h20=>oP 0 (xU h20 (by simp))) fun _=>lH 2 [] [0,1,2,3,4,5] [1] [0,2,4,6,9,51,52,53] (ih.2 _ _ _ _ _ _ _))<|rS (oCl 0)<|rC 1 [0,1,2] (ih.1 _ _ _ _ _) fun r21=>rS (oS 0 (yV xH [r21.1]))<|rW (fun h24=>oP 0 (xU h24 (by simp))) fun _=>lH 2 [] [0,1,2,3,4,5] [1] [0,2,4,6,9,51,52,53] (ih.2 _ _ _ _ _ _ _))<|lE 2⟩
theorem zKU{qq q0 q1 q2 p1 p2}:Cz (pD qq q0 q1 q2 p1 p2) 315 [.cells [ai q0,ab q1,.clo 289 [] [.mp 1 0,.mp 2 0]],.cells [slv zA q2 .no],.cells [.mp 0 0]] [.mp 0 0,tmA p1,ai p2] (fun r=>tmA r.1) (fun r=>[.cells [ai r.2.1,ab r.2.2,.clo 289 [] [.mp 1 0,.mp 2 0]],.cells [slv zA q2 .no],.cells [.mp 0 0]]) 0:=(eF _).1 _ _ _ _ _
def cS(qq:Nat)(p0:Tm)(q1:List Tm):Option (Tm×Int):=
 zCb qq 8192 false q1>>=fun r1=>
 pD qq 8192 false q1 p0 0>>=fun r3=>
 if r3.2.2 then
 some ((Tm.mk 0 0 []),2)
 else
 tV qq r3.1>>=fun r6=>
 if r6 then
 some (r3.1,0)
 else
 some ((Tm.mk 0 0 []),2)
theorem zKV{qq p0 q1}:Cz (cS qq p0 q1) 287 [.cells [slv zA q1 .no]] [tmA p0,.clo 288 [] [.mp 0 0]] (fun r=>.tup [tmA r.1,ai r.2]) (fun _=>[.cells [slv zA q1 .no]]) 0:=fw Tryz.func287<|rC 0 [3,0] zKR fun _=>rC 2 [3,0,4] zKU fun _=>rB 1 (fE 1)<|rK 1 [] sW (fun _=>fE 3) fun _=>fE 2
def gE:Nat->Tm->(List Tm)->Int->Option (Tm×Int)
 |0,_,_,_=>none
 |qq+1,p0,p1,v14=>
 if decide (v14<(List.length p1:Int))then
 zL p1 v14>>=fun x5=>
 tV qq x5>>=fun r7=>
 if r7 then
 gE qq p0 p1 (w64 (v14+1))
 else
 some ((Tm.mk 0 0 []),5)
 else
 cS qq p0 p1>>=fun r10=>
 some (r10.1,r10.2)
def zKW(qq:Nat)(p0:Tm)(p1:List Tm):Option (Tm×Int):=
 tV qq p0>>=fun r1=>
 if r1 then
 gE qq p0 p1 0
 else
 some ((Tm.mk 0 0 []),5)
theorem zND:∀qq:Nat,∀p0 p1 v14,Lz (gE qq p0 p1 v14) 0 Tryz.f245 (inn (inn (rgt (lft (rgt (rgt (bod Tryz.f245))))))) (fun j=>sp j 28 0 [(2,.mp 0 0),(3,.mp 1 0),(4,.mp 2 0),(12,slv zA p1 .no),(13,ai (List.length p1:Int)),(14,ai v14)]) ⟨[(0,.cells [ai p0.k,ai p0.n,slv zA p0.sub .no]),(1,.cells [slv zA p1 .no]),(2,.cells [ai 0,ai 0,slv zA ([]:List Tm) .nl])],3,[],0,[]⟩ (fun r=>.tup [tmA r.1,ai r.2]) (fun _=>[]) 0 [.blk 0,.seq (rgt (rgt (rgt (bod Tryz.f245))))]:=yW (fun _ _ _=>lN) fun qq ih=>fun p0 p1 v14=>lw fun _=>rB 0 (rA 0 (yM (o:=.no)) fun _=>rK 3 [] sW (fun _=>lH 2 [] [0,1,2] [] [2,3,4,12,13,14] (ih _ _ _)) fun _=>lE 2)<|rC 1 [1] zKV fun _=>lE 3
theorem zTk{qq p0 p1}:Cz (zKW qq p0 p1) 245 [] [tmA p0,slv zA p1 .no] (fun r=>.tup [tmA r.1,ai r.2]) (fun _=>[]) 0:=fw Tryz.func245<|rK 1 [] sW (fun _=>fH 3 [] [0,1,2] [] [2,3,4,12,13,14] (zND _ _ _ _)) fun _=>fE 2
def zKX(qq:Nat)(p0 p1:Tm):Option (Tm×Int):=
 zKW qq p0 [p1]>>=fun r1=>
 some (r1.1,r1.2)
theorem zTj{qq p0 p1}:Cz (zKX qq p0 p1) 270 [] [tmA p0,tmA p1] (fun r=>.tup [tmA r.1,ai r.2]) (fun _=>[]) 0:=fw Tryz.func270<|rS (oS 2 (yV xH [p1]))<|rC 0 [] zTk fun _=>fE 3
theorem C7:zT.Ok:=by unfold zT;rw[Tm.Ok,OkL];simp
theorem yS(k n:Int):(Tm.mk k n []).Ok:=by rw[Tm.Ok,OkL];simp
theorem zIo(ls:List Tm)(a:Tm)(b left:Int)(long:Bool)(ho:a.Ok)(hl:nA left long):Evt (fun q=>cR q left long ls a b) (raT a b left long):=by
 simp only[cR]
 have hs:=zBK a 0 (by omega) (by omega)
 have h1:=hl.1
 have h2:=hl.2.1
 refine(zGB a ho).bind ?_
 rw[zV (x:=left-szT a 0) (by omega) (by omega)]
 unfold raT
 by_cases h:left-szT a 0<0
 ·rw[if_pos h];exact Evt.ifT (decide_eq_true h) ((lY 0).bind Evt.ret)
 ·rw[if_neg h]
  refine Evt.ifF (decide_eq_false h) ((zCc a b ho).bind ?_)
  by_cases h3:(vE a b 0).2≠0
  ·rw[if_pos h3];exact Evt.ifT (by simpa using h3) ((lY 0).bind Evt.ret)
  ·rw[if_neg h3];exact Evt.ifF (by simpa using h3) Evt.ret
mutual
theorem I9(ls:List Tm):∀(t:Tm) (b left:Int) (long:Bool),nA left long->nA (sbT ls t b left long).2.1 (sbT ls t b left long).2.2
 | .mk kd n l,b,left,long,h=>by
  rw[sbT]
  cases long with
  |true=>simpa using h
  |false=>
   rw[if_neg (by simp)]
   split
   ·split
    ·exact zKQ h
    ·exact h
   ·have h0:=h.2.2 rfl
    have h1:=h.2.1
    refine zCa ls l kd 0 b _ _ ⟨by omega,by omega,fun h2=>?_⟩
    simp at h2;omega
theorem zCa(ls:List Tm):∀(l:List Tm) (kd:Int) (i:Nat) (b left:Int) (long:Bool),nA left long->nA (sbL ls l kd i b left long).2.1 (sbL ls l kd i b left long).2.2
 | [],kd,i,b,left,long,h=>by rw[sbL];exact h
 |t::l,kd,i,b,left,long,h=>by
  rw[sbL]
  exact zCa ls l kd (i+1) b _ _ (I9 ls t _ left long h)
end
theorem zGK(ls:List Tm):∀(l:List Tm) (kd:Int) (i:Nat) (b left:Int) (long:Bool),(sbL ls l kd i b left long).1.length=l.length
 | [],_,_,_,_,_=>by rw[sbL]
 |t::l,kd,i,b,left,long=>by rw[sbL];exact congrArg (· + 1) (zGK ls l kd (i+1) b _ _)
theorem zRx(a:Tm)(b left:Int)(long:Bool)(h:a.Ok):(raT a b left long).1.Ok:=by
 unfold raT
 split
 ·exact yS _ _
 ·split
  ·exact yS _ _
  ·exact jZ a b 0 h
mutual
theorem zEM(ls:List Tm)(hls:∀a∈ls,a.Ok):∀(t:Tm) (b left:Int) (long:Bool),t.Ok->(sbT ls t b left long).1.Ok
 | .mk kd n l,b,left,long,h=>by
  rw[sbT]
  split
  ·exact yS _ _
  ·split
   ·split
    ·exact zRx _ _ _ _ (hls _ (List.getElem_mem _))
    ·exact yS _ _
   ·rw[Tm.Ok]at h ⊢
    rw[zGK]
    exact⟨h.1,zKY ls hls l kd 0 b _ _ h.2⟩
theorem zKY(ls:List Tm)(hls:∀a∈ls,a.Ok):∀(l:List Tm) (kd:Int) (i:Nat) (b left:Int) (long:Bool),OkL l->OkL (sbL ls l kd i b left long).1
 | [],_,_,_,_,_,_=>by rw[sbL,OkL];trivial
 |t::l,kd,i,b,left,long,h=>by
  rw[OkL]at h
  rw[sbL,OkL]
  exact⟨zEM ls hls t _ _ _ h.1,zKY ls hls l kd (i+1) b _ _ h.2⟩
end
mutual
theorem zGL(ls:List Tm)(hls:∀a∈ls,a.Ok)(hlen:ls.length≤1152921504606846976):∀(t:Tm) (b left:Int) (long:Bool),xS t=true->0≤b->b+t.high≤1152921504606846976->nA left long->Evt (fun q=>pD q left long ls t b) (sbT ls t b left long)
 | .mk kd n l,b,left,long,hg,hb,hb2,hl=>by
  refine Evt.succ ?_
  simp only[pD]
  have hh:=wQ hg
  have hn:=lX hh.1
  rw[Tm.high]at hb2
  rw[sbT]
  cases long with
  |true=>exact Evt.ifT rfl ((lY 0).bind (Evt.ret.eq (by simp)))
  |false=>
   refine Evt.ifF rfl ?_
   rw[if_neg (by simp)]
   have hloose:Evt (fun q=>zNC q (.mk kd n l) b) (if kd=1∧b≤n then n-b else -1):=by
    refine Evt.mk fun q=>?_
    unfold zNC
    simp only[Tm.k,Tm.n]
    by_cases h1:kd=1
    ·by_cases h2:n<b
     ·simp[h1,h2,show ¬b≤n by omega]
     ·simp[h1,h2,show b≤n by omega]
      exact zV (by omega) (by omega)
    ·simp[h1]
   by_cases h1:kd=1∧b≤n
   ·rw[if_pos h1]at hloose ⊢
    have hleaf:Evt (fun q=>mU q (.mk kd n l) b ls left false) (let r:=(if h:(n-b).toNat<ls.length then raT (ls[(n-b).toNat]) b left false else(.mk 1 (n-ls.length) [],left,false));(r.1,true,r.2.1,r.2.2)):=by
     simp only[mU]
     refine hloose.bind (Evt.ifF (decide_eq_false (by omega)) ?_)
     by_cases h2:(n-b).toNat<ls.length
     ·rw[dif_pos h2]
      refine Evt.ifT (decide_eq_true (by omega)) (Evt.pure (a:=ls[(n-b).toNat]) ?_ ((zIo ls _ b left false (hls _ (List.getElem_mem _)) hl).bind Evt.ret))
      unfold zL
      rw[if_pos (by omega)]
      exact List.getElem?_eq_getElem h2
     ·rw[dif_neg h2]
      refine Evt.ifF (decide_eq_false (by omega)) ?_
      simp only[Tm.n]
      rw[zV (by omega) (by omega)]
      exact(qL _).bind Evt.ret
    exact hleaf.bind (Evt.ifT rfl Evt.ret)
   ·rw[if_neg h1]at hloose ⊢
    have hleaf:Evt (fun q=>mU q (.mk kd n l) b ls left false) (.mk 0 0 [],false,left,false):=by
     simp only[mU]
     exact hloose.bind (Evt.ifT rfl Evt.ret)
    refine hleaf.bind (Evt.ifF rfl ?_)
    have h0:=hl.2.2 rfl
    have h3:=hl.2.1
    rw[zV (x:=left-1) (by omega) (by omega)]
    have go:∀lg:Bool,lg=decide (left-1<0)->Evt (fun q=>wR q ls (.mk kd n l) b 0 (left-1) lg []) (let r:=sbL ls l kd 0 b (left-1) (decide (left-1<0));(.mk kd n r.1,r.2.1,r.2.2)):=fun lg hlg=>by
     subst hlg
     refine(zKZ ls hls hlen l (.mk kd n l) 0 b (left-1) _ [] rfl hh.2 (by have:=hn.2.2.2.2;exact this) hb (by omega) ⟨by omega,by omega,fun h2=>?_⟩ (by simp)).eq (by simp[Tm.k,Tm.n])
     simp at h2;omega
    by_cases h4:left-1<0
    ·exact Evt.ifT (decide_eq_true h4) (go true (by simp[h4]))
    ·exact Evt.ifF (decide_eq_false h4) (go false (by simp[h4]))
theorem zKZ(ls:List Tm)(hls:∀a∈ls,a.Ok)(hlen:ls.length≤1152921504606846976):∀(l:List Tm) (p:Tm) (v:Nat) (b left:Int) (long:Bool) (acc:List Tm),p.sub.drop v=l->pN l=true->p.sub.length≤2->0≤b->b+1+rY l≤1152921504606846976->nA left long->acc.length≤v ->
  Evt (fun q=>wR q ls p b (v:Int) left long acc) (.mk p.k p.n (acc++(sbL ls l p.k v b left long).1),(sbL ls l p.k v b left long).2.1,(sbL ls l p.k v b left long).2.2)
 | [],p,v,b,left,long,acc,hd,hg,hl2,hb,hb2,hl,ha=>by
  refine Evt.succ ?_
  simp only[wR]
  exact Evt.ifF (zX hd) (Evt.ret.eq (by rw[sbL];simp))
 |t::l,p,v,b,left,long,acc,hd,hg,hl2,hb,hb2,hl,ha=>by
  have hlt:=yC hd
  have hgc:=wP hg
  rw[rY]at hb2
  refine Evt.succ ?_
  simp only[wR]
  refine Evt.ifT (zW hd) (Evt.pure (zS hd) ?_)
  have next:∀x:Tm×Int×Bool,nA x.2.1 x.2.2->Evt (fun q=>yR 40 acc [x.1]>>=fun l15=>wR q ls p b (w64 ((v:Int)+1)) x.2.1 x.2.2 l15)
    (.mk p.k p.n (acc++x.1::(sbL ls l p.k (v+1) b x.2.1 x.2.2).1),(sbL ls l p.k (v+1) b x.2.1 x.2.2).2.1,(sbL ls l p.k (v+1) b x.2.1 x.2.2).2.2):=fun x hx=>by
   refine Evt.pure (zZ (by simp<;>omega)) ?_
   rw[zU v (by omega)]
   exact(zKZ ls hls hlen l p (v+1) b x.2.1 x.2.2 (acc++[x.1]) (zQ hd) hgc.2 hl2 hb (by omega) hx (by simp<;>omega)).eq (by simp)
  rw[sbL]
  by_cases h1:v=1
  ·subst h1
   refine Evt.ifT rfl ?_
   by_cases h5:p.k=5
   ·refine Evt.ifF (by simp[h5]) ?_
    have e:tO p.k 1 b=b:=by unfold tO;simp[h5]
    rw[e]
    exact(zGL ls hls hlen t b left long hgc.1 hb (by omega) hl).bind (next _ (I9 ls t b left long hl))
   ·refine Evt.ifT (by simp[h5]) ?_
    have e:tO p.k 1 b=b+1:=by unfold tO;simp[h5]
    rw[e,zV (x:=b+1) (by omega) (by omega)]
    exact(zGL ls hls hlen t (b+1) left long hgc.1 (by omega) (by omega) hl).bind (next _ (I9 ls t (b+1) left long hl))
  ·refine Evt.ifF (by simp<;>omega) ?_
   have e:tO p.k v b=b:=by unfold tO;simp[h1]
   rw[e]
   exact(zGL ls hls hlen t b left long hgc.1 hb (by omega) hl).bind (next _ (I9 ls t b left long hl))
end
def iA(t:Tm)(ls:List Tm):Tm×Int:=
 if zG t=true∧(ls.all zG)=true then
  (if (sbT ls t 0 8192 false).2.2=true then(zT,2)else if zG (sbT ls t 0 8192 false).1=true then((sbT ls t 0 8192 false).1,0)else(zT,2))
 else(zT,5)
theorem zRw(t:Tm)(ls:List Tm)(h:zG t=true)(ho:t.Ok)(hls:∀a∈ls,a.Ok)(hlen:ls.length≤1152921504606846976) :
  Evt (fun q=>cS q t ls) (if (sbT ls t 0 8192 false).2.2=true then(zT,2)else if zG (sbT ls t 0 8192 false).1=true then((sbT ls t 0 8192 false).1,0)else(zT,2)):=by
 simp only[cS]
 have hs:=zK h
 refine Evt.bind (a:=()) (Evt.mk fun _=>rfl) ((zGL ls hls hlen t 0 8192 false hs.2.2 (by omega) (by omega) ⟨by omega,by omega,fun _=>by omega⟩).bind ?_)
 by_cases h1:(sbT ls t 0 8192 false).2.2=true
 ·rw[if_pos h1];exact Evt.ifT h1 Evt.ret
 ·rw[if_neg h1]
  refine Evt.ifF (by simpa using h1) ((xB _ (zEM ls hls t 0 8192 false ho)).bind ?_)
  by_cases h2:zG (sbT ls t 0 8192 false).1=true
  ·rw[if_pos h2,if_pos h2];exact Evt.ret
  ·rw[if_neg h2,if_neg h2];exact Evt.ret
theorem zCA(t:Tm)(ls:List Tm)(h:zG t=true)(ho:t.Ok)(hls:∀a∈ls,a.Ok)(hlen:ls.length≤1152921504606846976):∀(r:List Tm) (v:Nat),ls.drop v=r ->
  Evt (fun q=>gE q t ls (v:Int)) (if (r.all zG)=true then(if (sbT ls t 0 8192 false).2.2=true then(zT,2)else if zG (sbT ls t 0 8192 false).1=true then((sbT ls t 0 8192 false).1,0)else(zT,2))else(zT,5))
 | [],v,hd=>by
  refine Evt.succ ?_
  simp only[gE]
  exact Evt.ifF (zX hd) ((zRw t ls h ho hls hlen).bind (Evt.ret.eq (by simp)))
 |x::r,v,hd=>by
  have hlt:=yC hd
  have hx:x∈ls:=by
   have:x∈ls.drop v:=by rw[hd];simp
   exact List.mem_of_mem_drop this
  refine Evt.succ ?_
  simp only[gE]
  refine Evt.ifT (zW hd) (Evt.pure (zS hd) ((xB x (hls x hx)).bind ?_))
  by_cases h1:zG x=true
  ·refine Evt.ifT h1 ?_
   rw[zU v (by omega)]
   exact(zCA t ls h ho hls hlen r (v+1) (zQ hd)).eq (by simp[h1])
  ·exact Evt.ifF (by simpa using h1) (Evt.ret.eq (by simp[h1,zT]))
theorem zGM(t:Tm)(ls:List Tm)(ho:t.Ok)(hls:∀a∈ls,a.Ok)(hlen:ls.length≤1152921504606846976):Evt (fun q=>zKW q t ls) (iA t ls):=by
 simp only[zKW]
 refine(xB t ho).bind ?_
 unfold iA
 by_cases h:zG t=true
 ·refine Evt.ifT h ((zCA t ls h ho hls hlen ls 0 rfl).eq ?_)
  simp[h]
 ·exact Evt.ifF (by simpa using h) (Evt.ret.eq (by simp[h,zT]))
theorem zLz(t a:Tm)(ho:t.Ok)(ha:a.Ok):Evt (fun q=>zKX q t a) (iA t [a]):=by
 simp only[zKX]
 exact(zGM t [a] ho (by simpa using ha) (by simp)).bind Evt.ret
theorem zAf(t:Tm)(ls:List Tm)(ho:t.Ok)(hls:∀a∈ls,a.Ok):(iA t ls).1.Ok:=by
 unfold iA
 split
 ·split
  ·exact C7
  ·split
   ·exact zEM ls hls t 0 8192 false ho
   ·exact C7
 ·exact C7
def gF:Nat->Int->Int->(Tm×List Tm)->Int->Option (Bool)
 |0,_,_,_,_=>none
 |qq+1,p2,p4,r1,v37=>
 if decide (v37<p2)then
 zL r1.2 v37>>=fun x7=>
 if x7.k != 1 then
 some false
 else
 if x7.n != (w64 ((w64 (p4-1))-v37))then
 some false
 else
 gF qq p2 p4 r1 (w64 (v37+1))
 else
 some true
def zIn(qq:Nat)(p0:Tm)(p1 p2 p3 p4:Int):Option (Bool):=
 jX qq p0>>=fun r1=>
 if r1.1.k != 6 then
 some false
 else
 if r1.1.n != p1 then
 some false
 else
 if (List.length r1.2:Int) != (w64 (p2+p3))then
 some false
 else
 gF qq p2 p4 r1 0
theorem zNE:∀qq:Nat,∀p2 p4 r1 v37,Lz (gF qq p2 p4 r1 v37) 0 Tryz.f209 (inn (inn (rgt (lft (rgt (rgt (rgt (bod Tryz.f209)))))))) (fun j=>sp j 59 0 [(4,ai p4),(12,slv zA r1.2 .no),(36,ai p2),(37,ai v37)]) ⟨[],0,[],0,[]⟩ (fun r=>ab r) (fun _=>[]) 0 [.blk 0,.seq (rgt (rgt (rgt (rgt (bod Tryz.f209)))))]:=yW (fun _ _ _ _=>lN) fun qq ih=>fun p2 p4 r1 v37=>lw fun _=>rB 0 (rH fun _ h8=>rS (oA 0 (yM (o:=.no) h8))<|rB 1 (lE 0)<|rS (oA 0 (yM (o:=.no) h8))<|rB 3 (lE 0)<|lH 1 [] [] [] [4,12,36,37] (ih _ _ _ _))<|lE 0
theorem zRv{qq p0 p1 p2 p3 p4}:Cz (zIn qq p0 p1 p2 p3 p4) 209 [] [tmA p0,ai p1,ai p2,ai p3,ai p4] (fun r=>ab r) (fun _=>[]) 0:=fw Tryz.func209<|rC 1 [] E8 fun _=>rB 4 (fE 0)<|rB 1 (fE 0)<|rB 2 (fE 0)<|fH 0 [] [] [] [4,12,36,37] (zNE _ _ _ _ _)
def aJ:Nat->Int->Int->(List Tm)->Int->Int->(List Tm)->Option (List Tm×Tm×Int)
 |0,_,_,_,_,_,_=>none
 |qq+1,p1,v25,v7,yL,yP,sK=>
 if decide (v25<p1)then
 if yL != 3 then
 some ([],(Tm.mk 0 0 []),6)
 else
 zL sK 0>>=fun x10=>
 yR 40 v7 [x10]>>=fun l12=>
 zL sK 1>>=fun x14=>
 aJ qq p1 (w64 (v25+1)) l12 x14.k x14.n x14.sub
 else
 some (v7,(Tm.mk yL yP sK),0)
def e91(qq:Nat)(p0:Tm)(p1:Int):Option (List Tm×Tm×Int):=
 tV qq p0>>=fun r1=>
 if r1 then
 if decide (p1<0)then
 some ([],(Tm.mk 0 0 []),5)
 else
 if decide (p1>24)then
 some ([],(Tm.mk 0 0 []),2)
 else
 e96 qq p0>>=fun r6=>
 aJ qq p1 0 [] r6.k r6.n r6.sub
 else
 some ([],(Tm.mk 0 0 []),5)
theorem zRu:∀qq:Nat,∀p1 v25 v7 yL yP sK,Lz (aJ qq p1 v25 v7 yL yP sK) 0 Tryz.f91 (inn (inn (rgt (lft (rgt (rgt (rgt (rgt (bod Tryz.f91))))))))) (fun j=>sp j 45 0 [(5,.mp 0 0),(7,slv zA v7 (.st 0 3)),(8,.mp 1 0),(24,ai p1),(25,ai v25)]) ⟨[(0,.cells [ai 0,ai 0,slv zA ([]:List Tm) .nl]),(1,.cells [ai yL,ai yP,slv zA sK .no])],2,[0],1,[]⟩ (fun r=>.tup [.sl (zD zA r.1) (List.length r.1) .no,tmA r.2.1,ai r.2.2]) (fun _=>[]) 0 [.blk 1,.seq (rgt (rgt (rgt (rgt (rgt (bod Tryz.f91))))))]:=yW (fun _ _ _ _ _ _=>lN) fun qq ih=>fun p1 v25 v7 yL yP sK=>lw fun _=>rB 0 (rB 1 (lE 1)<|rA 1 (yM (o:=.no)) fun x10=>rS (oS 1 (yV xH [x10]))<|rW (fun h13=>oP 0 (xU h13 (by simp))) fun _=>rA 1 (yM (o:=.no)) fun _=>lH 3 [] [0,1] [1] [5,7,8,24,25] (ih _ _ _ _ _ _))<|lE 2
theorem c91{qq p0 p1}:Cz (e91 qq p0 p1) 91 [] [tmA p0,ai p1] (fun r=>.tup [.sl (zD zA r.1) (List.length r.1) .no,tmA r.2.1,ai r.2.2]) (fun _=>[]) 0:=fw Tryz.func91<|rK 1 [] sW (fun _=>rB 1 (fE 1)<|rB 0 (fE 1)<|rC 1 [] c96 fun _=>fH 1 [(none,7,3)] [1,2] [0] [5,7,8,24,25] (zRu _ _ _ _ _ _ _)) fun _=>fE 2
def aK:Nat->Tm->Int->Int->Int->(List Tm)->Option (List Tm×Tm×Int)
 |0,_,_,_,_,_=>none
 |qq+1,p0,v5,xA,xY,xK=>
 if xA==3 then
 if (List.length xK:Int)==2 then
 if decide (v5≤24)then
 zL xK 1>>=fun x4=>
 aK qq p0 (w64 (v5+1)) x4.k x4.n x4.sub
 else
 e91 qq p0 v5>>=fun r6=>
 some (r6.1,r6.2.1,r6.2.2)
 else
 e91 qq p0 v5>>=fun r8=>
 some (r8.1,r8.2.1,r8.2.2)
 else
 e91 qq p0 v5>>=fun r10=>
 some (r10.1,r10.2.1,r10.2.2)
def e99(qq:Nat)(p0:Tm):Option (List Tm×Tm×Int):=
 aK qq p0 0 p0.k p0.n p0.sub
theorem zRt:∀qq:Nat,∀p0 v5 xA xY xK,Lz (aK qq p0 v5 xA xY xK) 0 Tryz.f99 (inn (inn (rgt (lft (rgt (rgt (bod Tryz.f99))))))) (fun j=>sp j 34 0 [(1,.mp 0 0),(3,.mp 1 0),(5,ai v5),(6,.mp 2 0)]) ⟨[(0,.cells [ai p0.k,ai p0.n,slv zA p0.sub .no]),(1,.cells [ai 0,ai 0,slv zA ([]:List Tm) .nl]),(2,.cells [ai xA,ai xY,slv zA xK .no])],3,[],0,[]⟩ (fun r=>.tup [.sl (zD zA r.1) (List.length r.1) .no,tmA r.2.1,ai r.2.2]) (fun _=>[]) 0 [.blk 0,.seq (rgt (rgt (rgt (bod Tryz.f99))))]:=yW (fun _ _ _ _ _=>lN) fun qq ih=>fun p0 v5 xA xY xK=>lw fun _=>rB 1 (rB 2 (rB 0 (rA 4 (yM (o:=.no)) fun _=>lH 2 [] [0,1,3] [] [1,3,5,6] (ih _ _ _ _ _))<|rC 1 [] c91 fun _=>lE 4)<|rC 1 [] c91 fun _=>lE 4)<|rC 1 [] c91 fun _=>lE 4
theorem c99{qq p0}:Cz (e99 qq p0) 99 [] [tmA p0] (fun r=>.tup [.sl (zD zA r.1) (List.length r.1) .no,tmA r.2.1,ai r.2.2]) (fun _=>[]) 0:=fw Tryz.func99<|fH 2 [] [0,1,2] [] [1,3,5,6] (zRt _ _ _ _ _ _)
def cT:Nat->Tm->Option (List Tm×Tm)
 |0,t=>some ([],t)
 |n+1,.mk k _ [a,b]=>if k=3 then(cT n b).map fun r=>(a::r.1,r.2)else none
 |_+1,_=>none
theorem zGN(n:Nat)(m:Int)(a b:Tm):cT (n+1) (.mk 3 m [a,b])=(cT n b).map fun r=>(a::r.1,r.2):=by rw[cT,if_pos rfl]
theorem zCB{n:Nat}{t:Tm}(h:t.k≠3):cT (n+1) t=none:=by
 unfold cT
 split
 ·rename_i h1;cases h1
 ·rename_i h1;exact if_neg h
 ·rfl
theorem cU{t:Tm}(hg:xS t=true)(h:t.k=3):∃a b,t = .mk 3 t.n [a,b]∧xS a=true∧xS b=true:=by
 obtain⟨k,n,l⟩:=t
 have hh:=wQ hg
 have hs:=sI hh.1
 replace h:k=3:=h
 subst h
 obtain⟨a,b,rfl⟩:=zNB (hs.2.2.2.2.2.1 (.inl rfl)).1
 have hc:=wP hh.2
 exact⟨a,b,rfl,hc.1,(wP hc.2).1⟩
def zEN(acc:List Tm):Option (List Tm×Tm)->List Tm×Tm×Int
 |none=>([],zT,6)
 |some r=>(acc++r.1,r.2,0)
theorem zIm(N:Nat)(hN:N≤24):∀(m v:Nat) (acc:List Tm) (x:Tm),v+m=N->xS x=true->acc.length≤v->Evt (fun q=>aJ q (N:Int) (v:Int) acc x.k x.n x.sub) (zEN acc (cT m x)):=by
 intro m
 induction m with
 |zero=>
  intro v acc x hm hg ha
  refine Evt.succ ?_
  simp only[aJ]
  refine Evt.ifF (decide_eq_false (by omega)) (Evt.ret.eq ?_)
  rw[cT,zEN,uI];simp
 |succ m ih=>
  intro v acc x hm hg ha
  refine Evt.succ ?_
  simp only[aJ]
  refine Evt.ifT (decide_eq_true (by omega)) ?_
  by_cases h:x.k=3
  ·obtain⟨a,b,hx,hga,hgb⟩:=cU hg h
   refine Evt.ifF (by simp[h]) ?_
   rw[hx,zGN]
   refine Evt.pure (a:=a) rfl (Evt.pure (zZ (by simp<;>omega)) (Evt.pure (a:=b) rfl ?_))
   rw[zU v (by omega)]
   refine(ih (v+1) (acc++[a]) b (by omega) hgb (by simp<;>omega)).eq ?_
   cases cT m b<;>simp[zEN]
  ·rw[zCB h,zEN]
   exact Evt.ifT (by simp[h]) Evt.ret
def wG(t:Tm)(n:Int):List Tm×Tm×Int:=
 if zG t=true then(if n<0 then([],zT,5)else if n>24 then([],zT,2)else zEN [] (cT n.toNat t))else([],zT,5)
theorem iB(t:Tm)(n:Int)(ho:t.Ok):Evt (fun q=>e91 q t n) (wG t n):=by
 simp only[e91]
 refine(xB t ho).bind ?_
 unfold wG
 by_cases h:zG t=true
 ·rw[if_pos h]
  refine Evt.ifT h ?_
  by_cases h1:n<0
  ·rw[if_pos h1];exact Evt.ifT (decide_eq_true h1) Evt.ret
  ·rw[if_neg h1]
   refine Evt.ifF (decide_eq_false h1) ?_
   by_cases h2:n>24
   ·rw[if_pos h2];exact Evt.ifT (decide_eq_true h2) Evt.ret
   ·rw[if_neg h2]
    refine Evt.ifF (decide_eq_false h2) ((pW t ho).bind ?_)
    unfold mT
    rw[if_pos h]
    have:=zIm n.toNat (by omega) n.toNat 0 [] t (by omega) (zK h).2.2 (by simp)
    rw[show ((n.toNat:Nat):Int)=n by omega]at this
    exact this
 ·rw[if_neg h];exact Evt.ifF (by simpa using h) Evt.ret
def uD:Tm->Nat
 | .mk k _ [_,b]=>if k=3 then uD b+1 else 0
 |_=>0
theorem J0(m:Int)(a b:Tm):uD (.mk 3 m [a,b])=uD b+1:=by rw[uD,if_pos rfl]
theorem zEO{t:Tm}(h:t.k≠3):uD t=0:=by
 unfold uD
 split
 ·exact if_neg h
 ·rfl
theorem zLy{t:Tm}(h:t.sub.length≠2):uD t=0:=by
 unfold uD
 split
 ·exact absurd rfl h
 ·rfl
def xC(t:Tm):List Tm×Tm×Int:=wG t ((min (uD t) 25:Nat):Int)
theorem zIl(p:Tm)(ho:p.Ok):∀(m v:Nat) (x:Tm),v+m=25->Evt (fun q=>aK q p (v:Int) x.k x.n x.sub) (wG p ((min (v+uD x) 25:Nat):Int)):=by
 intro m
 induction m with
 |zero=>
  intro v x hm
  refine Evt.succ ?_
  simp only[aK]
  have hv:v=25:=by omega
  subst hv
  have hsp:Evt (fun q=>e91 q p ((25:Nat):Int)>>=fun r6=>some (r6.1,r6.2.1,r6.2.2)) (wG p ((min (25+uD x) 25:Nat):Int)):=
   ((iB p _ ho).bind Evt.ret).eq (by rw[show min (25+uD x) 25=25 by omega])
  exact Evt.iff (fun _=>Evt.iff (fun _=>Evt.ifF rfl hsp) fun _=>hsp) fun _=>hsp
 |succ m ih=>
  intro v x hm
  refine Evt.succ ?_
  simp only[aK]
  have hsp:uD x=0->Evt (fun q=>e91 q p (v:Int)>>=fun r6=>some (r6.1,r6.2.1,r6.2.2)) (wG p ((min (v+uD x) 25:Nat):Int)):=fun h=>
   ((iB p _ ho).bind Evt.ret).eq (by rw[h,show min (v+0) 25=v by omega])
  by_cases h3:x.k=3
  ·refine Evt.ifT (by simp[h3]) ?_
   by_cases h2:x.sub.length=2
   ·refine Evt.ifT (by simp[h2]) (Evt.ifT (decide_eq_true (by omega)) ?_)
    obtain⟨k,n,l⟩:=x
    replace h3:k=3:=h3
    subst h3
    obtain⟨a,b,rfl⟩:=zNB h2
    refine Evt.pure (a:=b) rfl ?_
    rw[zU v (by omega),J0]
    exact(ih (v+1) b (by omega)).eq (by rw[show v+1+uD b=v+(uD b+1) by omega])
   ·exact Evt.ifF (by simp<;>omega) (hsp (zLy h2))
  ·exact Evt.ifF (by simp[h3]) (hsp (zEO h3))
theorem mV(t:Tm)(ho:t.Ok):Evt (fun q=>e99 q t) (xC t):=by
 simp only[e99]
 exact(zIl t ho 25 0 t rfl).eq (by unfold xC;simp)
theorem w6:∀(n:Nat) (t:Tm) (r:List Tm×Tm),xS t=true->cT n t=some r->r.1.length=n∧uD t=n+uD r.2∧(xS r.2=true∧r.2.nodes≤t.nodes∧r.2.high≤t.high)∧∀x∈r.1,xS x=true∧x.nodes≤t.nodes∧x.high≤t.high
 |0,t,r,hg,h=>by
  rw[cT]at h;cases h
  exact⟨rfl,by simp,⟨hg,Nat.le_refl _,Nat.le_refl _⟩,fun x hx=>by cases hx⟩
 |n+1,t,r,hg,h=>by
  by_cases h3:t.k=3
  ·obtain⟨a,b,hx,hga,hgb⟩:=cU hg h3
   rw[hx]at h ⊢
   rw[zGN]at h
   obtain⟨r',h1,rfl⟩:=Option.map_eq_some_iff.1 h
   have ih:=w6 n b r' hgb h1
   rw[J0]
   simp only[Tm.nodes,yN,Tm.high,rY]
   refine⟨by simp[ih.1],by omega,⟨ih.2.2.1.1,by omega,by omega⟩,fun x hx=>?_⟩
   rcases List.mem_cons.1 hx with rfl|hx
   ·exact⟨hga,by omega,by omega⟩
   ·have:=ih.2.2.2 x hx;exact⟨this.1,by omega,by omega⟩
  ·rw[zCB h3]at h;cases h
theorem aL{t:Tm}{n:Int}{l:List Tm}{y:Tm}(h:wG t n=(l,y,0)):zG t=true∧0≤n∧n≤24∧(l.length:Int)=n∧uD t=l.length+uD y∧zG y=true∧∀x∈l,zG x=true:=by
 unfold wG at h
 split at h
 ·rename_i hs
  split at h
  ·simp at h
  ·split at h
   ·simp at h
   ·cases hr:cT n.toNat t with
    |none=>rw[hr]at h;simp[zEN]at h
    |some r=>
     rw[hr]at h
     simp only[zEN,List.nil_append,Prod.mk.injEq,and_true]at h
     obtain⟨rfl,rfl⟩:=h
     have hsp:=zK hs
     have:=w6 _ _ _ hsp.2.2 hr
     refine⟨hs,by omega,by omega,by omega,by omega,oY (by omega) (by omega) this.2.2.1.1,fun x hx=>?_⟩
     have hx:=this.2.2.2 x hx
     exact oY (by omega) (by omega) hx.1
 ·simp at h
theorem oH{t:Tm}{l:List Tm}{y:Tm}(h:xC t=(l,y,0)):zG t=true∧l.length=uD t∧l.length≤24∧uD y=0∧zG y=true∧∀x∈l,zG x=true:=by
 have:=aL h
 refine⟨this.1,by omega,by omega,by omega,this.2.2.2.2.2.1,this.2.2.2.2.2.2⟩
def zCC:List Tm->Int->Bool
 | [],_=>true
 |a::l,n=>a.k==1&&a.n==n&&zCC l (n-1)
def rL(t:Tm)(of pars more binders:Int):Bool:=
 (hdT t).k==6&&(hdT t).n==of&&((arT t).length:Int)==pars+more&&zCC ((arT t).take pars.toNat) (binders-1)
theorem zCD(p:Tm×List Tm)(P:Nat)(binders:Int)(hP:P≤p.2.length)(hl:p.2.length≤8192)(hb:-1152921504606846976≤binders∧binders≤1152921504606846976):∀(m v:Nat),v+m=P ->
  Evt (fun q=>gF q (P:Int) binders p (v:Int)) (zCC ((p.2.take P).drop v) (binders-1-v)):=by
 intro m
 induction m with
 |zero=>
  intro v hm
  refine Evt.succ ?_
  simp only[gF]
  refine Evt.ifF (decide_eq_false (by omega)) (Evt.ret.eq ?_)
  rw[List.drop_eq_nil_of_le (by simp<;>omega),zCC]
 |succ m ih=>
  intro v hm
  refine Evt.succ ?_
  simp only[gF]
  have hv:v<(p.2.take P).length:=by simp<;>omega
  have hd:=List.drop_eq_getElem_cons hv
  have hg:zL p.2 (v:Int)=some (p.2.take P)[v]:=by
   unfold zL
   rw[if_pos (by omega),show (v:Int).toNat=v by omega,List.getElem?_eq_getElem (by omega)]
   simp
  generalize (p.2.take P)[v]=x at hd hg
  refine Evt.ifT (decide_eq_true (by omega)) (Evt.pure hg ?_)
  rw[hd,zCC,zV (x:=binders-1) (by omega) (by omega),zV (x:=binders-1-v) (by omega) (by omega)]
  by_cases h1:x.k=1
  ·refine Evt.ifF (by simp[h1]) ?_
   by_cases h2:x.n=binders-1-v
   ·refine Evt.ifF (by simp[h2]) ?_
    rw[zU v (by omega)]
    refine(ih (v+1) (by omega)).eq ?_
    rw[show binders-1-((v+1:Nat):Int)=binders-1-v-1 by omega]
    simp[h1,h2]
   ·exact Evt.ifT (by simp[h2]) (Evt.ret.eq (by simp[h2]))
  ·exact Evt.ifT (by simp[h1]) (Evt.ret.eq (by simp[h1]))
theorem dM(t:Tm)(of pars more binders:Int)(hs:zG t=true)(h0:0≤pars∧pars≤1152921504606846976)(h1:0≤more∧more≤1152921504606846976)(hb:-1152921504606846976≤binders∧binders≤1152921504606846976) :
  Evt (fun q=>zIn q t of pars more binders) (rL t of pars more binders):=by
 simp only[zIn]
 refine(rJ t hs).bind ?_
 unfold rL
 by_cases h2:(hdT t).k=6
 ·refine Evt.ifF (by simp[h2]) ?_
  by_cases h3:(hdT t).n=of
  ·refine Evt.ifF (by simp[h3]) ?_
   rw[zV (x:=pars+more) (by omega) (by omega)]
   by_cases h4:((arT t).length:Int)=pars+more
   ·refine Evt.ifF (by simp[h4]) ?_
    have hl:=sA t (zK hs).2.2
    have hn:=(zK hs).1
    have:=zCD (hdT t,arT t) pars.toNat binders (by show _≤(arT t).length;omega) (by show (arT t).length≤_;omega) hb pars.toNat 0 (by omega)
    rw[show ((pars.toNat:Nat):Int)=pars by omega]at this
    exact this.eq (by simp[h2,h3,h4])
   ·exact Evt.ifT (by simp[h4]) (Evt.ret.eq (by simp[h4]))
  ·exact Evt.ifT (by simp[h3]) (Evt.ret.eq (by simp[h3]))
 ·exact Evt.ifT (by simp[h2]) (Evt.ret.eq (by simp[h2]))
def zEP(qq:Nat)(p0:Int):Option (Bool):=
 if decide (p0≥0)then
 if decide (p0≤1114111)then
 if decide (p0<55296)then
 some true
 else
 some (decide (p0>57343))
 else
 some false
 else
 some false
theorem zNF{qq p0}:Cz (zEP qq p0) 239 [] [ai p0] (fun r=>ab r) (fun _=>[]) 0:=fw Tryz.func239<|rB 0 (rB 0 (rB 0 (fE 0)<|fE 1)<|fE 0)<|fE 0
def zNG(qq:Nat)(p0:U8):Option (Int×Int):=
 if decide (p0<128)then
 some (1,(w64 (p0)))
 else
 if decide (p0≥192)then
 if decide (p0<224)then
 some (2,(w64 ((IntKind.u8.wrap ((BitVec.ofInt (IntKind.bits .u8) p0 &&& BitVec.ofInt (IntKind.bits .u8) 31).toNat:Nat)))))
 else
 if decide (p0≥224)then
 if decide (p0<240)then
 some (3,(w64 ((IntKind.u8.wrap ((BitVec.ofInt (IntKind.bits .u8) p0 &&& BitVec.ofInt (IntKind.bits .u8) 15).toNat:Nat)))))
 else
 if decide (p0≥240)then
 if decide (p0<248)then
 some (4,(w64 ((IntKind.u8.wrap ((BitVec.ofInt (IntKind.bits .u8) p0 &&& BitVec.ofInt (IntKind.bits .u8) 7).toNat:Nat)))))
 else
 some (0,0)
 else
 some (0,0)
 else
 if decide (p0≥240)then
 if decide (p0<248)then
 some (4,(w64 ((IntKind.u8.wrap ((BitVec.ofInt (IntKind.bits .u8) p0 &&& BitVec.ofInt (IntKind.bits .u8) 7).toNat:Nat)))))
 else
 some (0,0)
 else
 some (0,0)
 else
 if decide (p0≥224)then
 if decide (p0<240)then
 some (3,(w64 ((IntKind.u8.wrap ((BitVec.ofInt (IntKind.bits .u8) p0 &&& BitVec.ofInt (IntKind.bits .u8) 15).toNat:Nat)))))
 else
 if decide (p0≥240)then
 if decide (p0<248)then
 some (4,(w64 ((IntKind.u8.wrap ((BitVec.ofInt (IntKind.bits .u8) p0 &&& BitVec.ofInt (IntKind.bits .u8) 7).toNat:Nat)))))
 else
 some (0,0)
 else
 some (0,0)
 else
 if decide (p0≥240)then
 if decide (p0<248)then
 some (4,(w64 ((IntKind.u8.wrap ((BitVec.ofInt (IntKind.bits .u8) p0 &&& BitVec.ofInt (IntKind.bits .u8) 7).toNat:Nat)))))
 else
 some (0,0)
 else
 some (0,0)
theorem zUT{qq p0}:Cz (zNG qq p0) 273 [] [.val (.int .u8 p0)] (fun r=>.tup [ai r.1,ai r.2]) (fun _=>[]) 0:=fw Tryz.func273<|rB 0 (fE 1)<|rB 0 (rB 0 (fE 2)<|rB 0 (rB 0 (fE 2)<|rB 0 (rB 0 (fE 2)<|fE 0)<|fE 0)<|rB 0 (rB 0 (fE 2)<|fE 0)<|fE 0)<|rB 0 (rB 0 (fE 2)<|rB 0 (rB 0 (fE 2)<|fE 0)<|fE 0)<|rB 0 (rB 0 (fE 2)<|fE 0)<|fE 0
def zEQ(qq:Nat)(p0:Int):Option (Int):=
 if decide (p0≥65536)then
 some 4
 else
 if decide (p0≥2048)then
 some 3
 else
 if decide (p0≥128)then
 some 2
 else
 some 1
theorem zTi{qq p0}:Cz (zEQ qq p0) 274 [] [ai p0] (fun r=>ai r) (fun _=>[]) 0:=fw Tryz.func274<|rB 0 (fE 3)<|rB 0 (fE 2)<|rB 0 (fE 1)<|fE 0
def gG:Nat->ByteArray->Int->(Int×Int)->Int->Int->Option (Int×Int×Int)
 |0,_,_,_,_,_=>none
 |qq+1,p0,p1,r5,v8,v9=>
 if decide (v9<r5.1)then
 B8 p0 (w64 (p1+v9))>>=fun x10=>
 if (IntKind.u8.wrap ((BitVec.ofInt (IntKind.bits .u8) x10 &&& BitVec.ofInt (IntKind.bits .u8) 192).toNat:Nat)) != 128 then
 some (0,0,1)
 else
 gG qq p0 p1 r5 (IntKind.i64.wrap ((BitVec.ofInt (IntKind.bits .i64) (w64 (v8*2 ^ (min (Int.toNat 6) (IntKind.bits .i64)))) ||| BitVec.ofInt (IntKind.bits .i64) (w64 ((IntKind.u8.wrap ((BitVec.ofInt (IntKind.bits .u8) x10 &&& BitVec.ofInt (IntKind.bits .u8) 63).toNat:Nat))))).toNat:Nat)) (w64 (v9+1))
 else
 zEP qq v8>>=fun r13=>
 if r13 then
 zEQ qq v8>>=fun r16=>
 if r16 != r5.1 then
 some (0,0,1)
 else
 some (v8,r5.1,0)
 else
 some (0,0,1)
def zNH(qq:Nat)(p0:ByteArray)(p1:Int):Option (Int×Int×Int):=
 if decide (p1<0)then
 some (0,0,1)
 else
 if decide (p1≥(p0.size:Int))then
 some (0,0,1)
 else
 B8 p0 p1>>=fun x3=>
 zNG qq x3>>=fun r5=>
 if r5.1==0 then
 some (0,0,1)
 else
 if decide (r5.1>(w64 ((p0.size:Int)-p1)))then
 some (0,0,1)
 else
 gG qq p0 p1 r5 r5.2 1
theorem zNI:∀qq:Nat,∀p0 p1 r5 v8 v9,Lz (gG qq p0 p1 r5 v8 v9) 0 Tryz.f222 (inn (inn (rgt (lft (rgt (rgt (rgt (rgt (bod Tryz.f222))))))))) (fun j=>sp j 66 0 [(0,at' p0),(1,ai p1),(7,ai r5.1),(8,ai v8),(9,ai v9)]) ⟨[],0,[],0,[]⟩ (fun r=>.tup [ai r.1,ai r.2.1,ai r.2.2]) (fun _=>[]) 0 [.blk 0,.seq (rgt (rgt (rgt (rgt (rgt (bod Tryz.f222))))))]:=yW (fun _ _ _ _ _=>lN) fun qq ih=>fun p0 p1 r5 v8 v9=>lw fun _=>rB 0 (rA 1 zEF fun _=>rB 1 (lE 0)<|lH 5 [] [] [] [0,1,7,8,9] (ih _ _ _ _ _))<|rK 0 [] zNF (fun _=>rC 1 [] zTi fun _=>rB 0 (lE 0)<|lE 0) fun _=>lE 1
theorem zUU{qq p0 p1}:Cz (zNH qq p0 p1) 222 [] [at' p0,ai p1] (fun r=>.tup [ai r.1,ai r.2.1,ai r.2.2]) (fun _=>[]) 0:=fw Tryz.func222<|rB 0 (fE 0)<|rB 1 (fE 0)<|rA 0 zEF fun _=>rC 0 [] zUT fun _=>rB 2 (fE 0)<|rB 2 (fE 0)<|fH 0 [] [] [] [0,1,7,8,9] (zNI _ _ _ _ _ _)
def gH:Nat->ByteArray->(List Int)->Int->Option (List Int×Int×Int)
 |0,_,_,_=>none
 |qq+1,p0,v5,v6=>
 if decide (v6<(p0.size:Int))then
 zNH qq p0 v6>>=fun r3=>
 if r3.2.2 != 0 then
 some ([],v6,r3.2.2)
 else
 yR 8 v5 [r3.1]>>=fun l6=>
 gH qq p0 l6 (w64 (v6+r3.2.1))
 else
 some (v5,(p0.size:Int),0)
def zLx(qq:Nat)(p0:ByteArray):Option (List Int×Int×Int):=
 if decide ((p0.size:Int)>65535)then
 some ([],0,2)
 else
 gH qq p0 [] 0
theorem zNJ:∀qq:Nat,∀p0 v5 v6,Lz (gH qq p0 v5 v6) 0 Tryz.f168 (inn (inn (rgt (lft (rgt (rgt (rgt (bod Tryz.f168)))))))) (fun j=>sp j 38 0 [(0,at' p0),(5,slv zM v5 (.st 0 1)),(6,ai v6)]) ⟨[],0,[0],1,[]⟩ (fun r=>.tup [.sl (zD zM r.1) (List.length r.1) .no,ai r.2.1,ai r.2.2]) (fun _=>[]) 0 [.blk 0,.seq (rgt (rgt (rgt (rgt (bod Tryz.f168)))))]:=yW (fun _ _ _=>lN) fun qq ih=>fun p0 v5 v6=>lw fun _=>rB 1 (rC 0 [] zUU fun _=>rB 3 (lE 0)<|rW (fun h7=>oP 1 (nO h7 (by simp))) fun _=>lH 1 [] [] [1] [0,5,6] (ih _ _ _))<|lE 1
theorem zTh{qq p0}:Cz (zLx qq p0) 168 [] [at' p0] (fun r=>.tup [.sl (zD zM r.1) (List.length r.1) .no,ai r.2.1,ai r.2.2]) (fun _=>[]) 0:=fw Tryz.func168<|rB 1 (fE 0)<|fH 0 [(none,5,1)] [] [0] [0,5,6] (zNJ _ _ _ _)
def zIk(qq:Nat)(p0:ByteArray):Option (Bool):=
 if p0.toList==(⟨#[100,97,116,97]⟩:ByteArray).toList then
 some true
 else
 if p0.toList==(⟨#[114,101,99,111,114,100]⟩:ByteArray).toList then
 some true
 else
 if p0.toList==(⟨#[100,101,102]⟩:ByteArray).toList then
 some true
 else
 if p0.toList==(⟨#[83,101,116]⟩:ByteArray).toList then
 some true
 else
 some false
theorem zRs{qq p0}:Cz (zIk qq p0) 178 [] [at' p0] (fun r=>ab r) (fun _=>[]) 0:=fw Tryz.func178<|rB 0 (fE 0)<|rB 0 (fE 0)<|rB 0 (fE 0)<|rB 0 (fE 0)<|fE 0
end Go.Proofs.YthncchbcdpbgaaaGreat
