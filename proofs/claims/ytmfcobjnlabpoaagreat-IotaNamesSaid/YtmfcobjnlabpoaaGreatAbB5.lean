/- Texts: AbQf AbRf AbF137 AbF69 AbQg AbQh AbTi AbTj -/
import Derived.KernelRfl
import Derived.Test.YtmfcobjnlabpoaaGreatAbB4
set_option linter.unusedVariables false
set_option linter.unusedSimpArgs false
set_option linter.unusedSectionVars false
namespace Go.Proofs.YtmfcobjnlabpoaaGreat
open Go Go.Ab
noncomputable def fieldX(l:List Ent)(i:Int)(a:List Tm):Tm×Int:=
 open Classical in if h:∃r,Evt (fun q=>e314 q l (evA l l.length 0) i a) r then h.choose else(zT,5)
theorem fieldX_spec{N:ByteArray->Bool}(l:List Ent)(i:Int)(a:List Tm)(hE:AllE N l)(ho:OkA a)(hl:a.length≤1073741824):Evt (fun q=>e314 q l (evA l l.length 0) i a) (fieldX l i a)∧FieldOk l i a (fieldX l i a):=by
 obtain⟨r,hr,hk⟩:=tot_Field l (evA l l.length 0) i a hE ho hl
 have hx:∃r,Evt (fun q=>e314 q l (evA l l.length 0) i a) r:=⟨r,hr⟩
 have e:fieldX l i a=r:=by
  unfold fieldX
  rw[dif_pos hx]
  exact hx.choose_spec.det hr
 rw[e];exact⟨hr,hk⟩
noncomputable def stepX(l:List Ent)(d lev c:Int)(args own:List Tm):Tm×Int:=
 open Classical in if h:∃r,Evt (fun q=>e84 q l (evA l l.length 0) d lev c args own) r then h.choose else(zT,5)
theorem stepX_spec{N:ByteArray->Bool}(l:List Ent)(d lev c:Int)(args own:List Tm)(hE:AllE N l)(ho4:OkA args)(ho5:OkA own)(hl4:args.length≤65535)(hl5:own.length≤65535):Evt (fun q=>e84 q l (evA l l.length 0) d lev c args own) (stepX l d lev c args own)∧StepOk l d lev c args own (stepX l d lev c args own):=by
 obtain⟨r,hr,hk⟩:=tot_Step l d lev c args own hE ho4 ho5 hl4 hl5
 have hx:∃r,Evt (fun q=>e84 q l (evA l l.length 0) d lev c args own) r:=⟨r,hr⟩
 have e:stepX l d lev c args own=r:=by
  unfold stepX
  rw[dif_pos hx]
  exact hx.choose_spec.det hr
 rw[e];exact⟨hr,hk⟩
inductive Act where
 |none
 |red (Y:Tm) (e:Int)
 |tgt (a:Tm)
noncomputable def actT(l:List Ent)(x:Tm):Act:=
 if (hdT x).k=4∧0<(arT x).length then .red (apT (subT (nth (hdT x).sub 1) [nth (arT x) 0]).1 ((arT x).drop 1)) (subT (nth (hdT x).sub 1) [nth (arT x) 0]).2
 else if kindT l (hdT x)=3 then .red (apT (ent l (hdT x).n).body (arT x)) 0
 else if kindT l (hdT x)=4 then(if ((arT x).length:Int)≤(ent l (hdT x).n).pars then .none else .tgt (nth (arT x) (ent l (hdT x).n).pars))
 else if (hdT x).k=7 then(if isT l (hdT x).n 1=true∧argsT (ent l (hdT x).n)≤(arT x).length then .tgt (nth (arT x) (argsT (ent l (hdT x).n)-1))else .none)
 else .none
noncomputable def reactT(l:List Ent)(x y:Tm):Option (Tm×Int):=
 if kindT l (hdT x)=4 then
  (if isCon l y∧(ent l (hdT y).n).fam=(ent l (hdT x).n).fam then
   some (apT (fieldX l (hdT x).n ((arT y).drop (ent l (hdT y).n).pars.toNat)).1 ((arT x).drop ((ent l (hdT x).n).pars+1).toNat),(fieldX l (hdT x).n ((arT y).drop (ent l (hdT y).n).pars.toNat)).2)
  else none)
 else
  (if isCon l y∧(ent l (hdT y).n).fam=(hdT x).n then
   some (apT (stepX l (hdT x).n (nth (hdT x).sub 0).n (hdT y).n ((arT x).take ((ent l (hdT x).n).pars+1+(ent l (hdT x).n).cons.length).toNat) ((arT y).drop (ent l (hdT x).n).pars.toNat)).1 ((arT x).drop (argsT (ent l (hdT x).n)).toNat),
    (stepX l (hdT x).n (nth (hdT x).sub 0).n (hdT y).n ((arT x).take ((ent l (hdT x).n).pars+1+(ent l (hdT x).n).cons.length).toNat) ((arT y).drop (ent l (hdT x).n).pars.toNat)).2)
  else none)
inductive Br (l:List Ent):Tm->Tm->Int->Int->Prop
 |stop {x:Tm}:actT l x = .none->Br l x x 0 0
 |redE {x Y:Tm} {e:Int}:actT l x = .red Y e->e≠0->Br l x zT e 0
 |redL {x Y:Tm}:actT l x = .red Y 0->shapedT Y=false->Br l x zT 2 1
 |red {x Y y:Tm} {e k:Int}:actT l x = .red Y 0->shapedT Y=true->Br l Y y e k->Br l x y e (1+k)
 |tgtE {x a z:Tm} {e k:Int}:actT l x = .tgt a->Br l a z e k->e≠0->Br l x zT e k
 |tgtN {x a z:Tm} {k:Int}:actT l x = .tgt a->Br l a z 0 k->reactT l x z=none->Br l x x 0 k
 |tgtRE {x a z Y:Tm} {e k:Int}:actT l x = .tgt a->Br l a z 0 k->reactT l x z=some (Y,e)->e≠0->Br l x zT e k
 |tgtRL {x a z Y:Tm} {k:Int}:actT l x = .tgt a->Br l a z 0 k->reactT l x z=some (Y,0)->shapedT Y=false->Br l x zT 2 (k+1)
 |tgtR {x a z Y y:Tm} {e k k':Int}:actT l x = .tgt a->Br l a z 0 k->reactT l x z=some (Y,0)->shapedT Y=true->Br l Y y e k'->Br l x y e (k+1+k')
inductive On (l:List Ent) (x:Tm):Tm->Bool->Int->Int->Prop
 |stop:actT l x = .none->On l x x false 0 0
 |redE {Y:Tm} {e:Int}:actT l x = .red Y e->e≠0->On l x x false e 0
 |redL {Y:Tm}:actT l x = .red Y 0->shapedT Y=false->On l x zT true 2 1
 |red {Y:Tm}:actT l x = .red Y 0->shapedT Y=true->On l x Y true 0 1
 |tgtE {a z:Tm} {e k:Int}:actT l x = .tgt a->Br l a z e k->e≠0->On l x x false e k
 |tgtN {a z:Tm} {k:Int}:actT l x = .tgt a->Br l a z 0 k->reactT l x z=none->On l x x false 0 k
 |tgtRE {a z Y:Tm} {e k:Int}:actT l x = .tgt a->Br l a z 0 k->reactT l x z=some (Y,e)->e≠0->On l x x false e k
 |tgtRL {a z Y:Tm} {k:Int}:actT l x = .tgt a->Br l a z 0 k->reactT l x z=some (Y,0)->shapedT Y=false->On l x zT true 2 (k+1)
 |tgtR {a z Y:Tm} {k:Int}:actT l x = .tgt a->Br l a z 0 k->reactT l x z=some (Y,0)->shapedT Y=true->On l x Y true 0 (k+1)
theorem Br.nn{l:List Ent}{x y:Tm}{e k:Int}(h:Br l x y e k):0≤k:=by
 induction h<;>omega
theorem On.nn{l:List Ent}{x y:Tm}{d:Bool}{e k:Int}(h:On l x y d e k):0≤k:=by
 cases h with
 |tgtE _ h=>exact h.nn
 |tgtN _ h=>exact h.nn
 |tgtRE _ h=>exact h.nn
 |tgtRL _ h=>have:=h.nn;omega
 |tgtR _ h=>have:=h.nn;omega
 |_=>omega
theorem On.step{l:List Ent}{x Y:Tm}{k:Int}(h:On l x Y true 0 k):shapedT Y=true∧1≤k∧∀y e k',Br l Y y e k'->Br l x y e (k+k'):=by
 cases h with
 |red a b=>exact⟨b,by omega,fun y e k' h=>.red a b h⟩
 |tgtR a b c d=>exact⟨d,by have:=b.nn;omega,fun y e k' h=>.tgtR a b c d h⟩
theorem nth_sub2{t:Tm}(hg:goodT t=true)(h:t.k=3∨t.k=4∨t.k=5):∃a b,t.sub=[a,b]∧goodT a=true∧goodT b=true:=by
 obtain⟨k,n,l⟩:=t
 have hh:=goodT_mk hg
 obtain⟨a,b,rfl⟩:=sub2 ((head_spec hh.1).2.2.2.2.2.1 h).1
 have hc:=goodL_cons hh.2
 exact⟨a,b,rfl,hc.1,(goodL_cons hc.2).1⟩
def Post(l:List Ent)(Y:Tm)(e0 k0:Int)(y:Tm)(e k:Int):Prop:=
 (e0≠0∧y=zT∧e=e0∧k=k0)∨(e0=0∧shapedT Y=false∧y=zT∧e=2∧k=k0+1)∨(e0=0∧shapedT Y=true∧∃k',Br l Y y e k'∧k=k0+1+k')
section
variable {l:List Ent} {x y:Tm} {e k:Int}
theorem Br.inv_none(h:Br l x y e k)(ha:actT l x = .none):y=x∧e=0∧k=0:=by
 cases h with
 |stop _=>exact⟨rfl,rfl,rfl⟩
 |redE a=>rw[ha]at a;cases a
 |redL a=>rw[ha]at a;cases a
 |red a=>rw[ha]at a;cases a
 |tgtE a=>rw[ha]at a;cases a
 |tgtN a=>rw[ha]at a;cases a
 |tgtRE a=>rw[ha]at a;cases a
 |tgtRL a=>rw[ha]at a;cases a
 |tgtR a=>rw[ha]at a;cases a
theorem Br.inv_red{Y:Tm}{e0:Int}(h:Br l x y e k)(ha:actT l x = .red Y e0):Post l Y e0 0 y e k:=by
 cases h with
 |stop a=>rw[ha]at a;cases a
 |redE a b=>rw[ha]at a;cases a;exact .inl ⟨b,rfl,rfl,rfl⟩
 |redL a b=>rw[ha]at a;cases a;exact .inr (.inl ⟨rfl,b,rfl,rfl,rfl⟩)
 |red a b c=>rw[ha]at a;cases a;exact .inr (.inr ⟨rfl,b,_,c,by omega⟩)
 |tgtE a=>rw[ha]at a;cases a
 |tgtN a=>rw[ha]at a;cases a
 |tgtRE a=>rw[ha]at a;cases a
 |tgtRL a=>rw[ha]at a;cases a
 |tgtR a=>rw[ha]at a;cases a
theorem Br.inv_tgt{a:Tm}(h:Br l x y e k)(ha:actT l x = .tgt a):∃z ea ka,Br l a z ea ka∧((ea≠0∧y=zT∧e=ea∧k=ka)∨(ea=0∧((reactT l x z=none∧y=x∧e=0∧k=ka)∨∃Y e0,reactT l x z=some (Y,e0)∧Post l Y e0 ka y e k))):=by
 cases h with
 |stop a=>rw[ha]at a;cases a
 |redE a b=>rw[ha]at a;cases a
 |redL a b=>rw[ha]at a;cases a
 |red a b c=>rw[ha]at a;cases a
 |tgtE a b c=>rw[ha]at a;cases a;exact⟨_,_,_,b,.inl ⟨c,rfl,rfl,rfl⟩⟩
 |tgtN a b c=>rw[ha]at a;cases a;exact⟨_,_,_,b,.inr ⟨rfl,.inl ⟨c,rfl,rfl,rfl⟩⟩⟩
 |tgtRE a b c d=>rw[ha]at a;cases a;exact⟨_,_,_,b,.inr ⟨rfl,.inr ⟨_,_,c,.inl ⟨d,rfl,rfl,rfl⟩⟩⟩⟩
 |tgtRL a b c d=>rw[ha]at a;cases a;exact⟨_,_,_,b,.inr ⟨rfl,.inr ⟨_,_,c,.inr (.inl ⟨rfl,d,rfl,rfl,rfl⟩)⟩⟩⟩
 |tgtR a b c d f=>rw[ha]at a;cases a;exact⟨_,_,_,b,.inr ⟨rfl,.inr ⟨_,_,c,.inr (.inr ⟨rfl,d,_,f,rfl⟩)⟩⟩⟩
theorem Br.det(h:Br l x y e k):∀ {y':Tm} {e' k':Int},Br l x y' e' k'->y'=y∧e'=e∧k'=k:=by
 induction h with
 |stop a=>intro y' e' k' h2;exact h2.inv_none a
 |redE a b=>
  intro y' e' k' h2
  rcases h2.inv_red a with⟨c,d⟩|⟨c,d⟩|⟨c,d⟩
  ·exact d
  ·exact absurd c b
  ·exact absurd c b
 |redL a b=>
  intro y' e' k' h2
  rcases h2.inv_red a with⟨c,d⟩|⟨c,d,f⟩|⟨c,d,f⟩
  ·exact absurd rfl c
  ·exact f
  ·rw[b]at d;cases d
 |red a b c ih=>
  intro y' e' k' h2
  rcases h2.inv_red a with⟨c,d⟩|⟨c,d,f⟩|⟨c,d,n,f,g⟩
  ·exact absurd rfl c
  ·rw[b]at d;cases d
  ·obtain⟨rfl,rfl,rfl⟩:=ih f;exact⟨rfl,rfl,by omega⟩
 |tgtE a b c ih=>
  intro y' e' k' h2
  obtain⟨z',ea,ka,hb',h3⟩:=h2.inv_tgt a
  obtain⟨rfl,rfl,rfl⟩:=ih hb'
  rcases h3 with⟨_,d⟩|⟨d,_⟩
  ·exact d
  ·exact absurd d c
 |tgtN a b c ih=>
  intro y' e' k' h2
  obtain⟨z',ea,ka,hb',h3⟩:=h2.inv_tgt a
  obtain⟨rfl,rfl,rfl⟩:=ih hb'
  rcases h3 with⟨d,_⟩|⟨_,⟨_,d⟩|⟨Y,e0,d,_⟩⟩
  ·exact absurd rfl d
  ·exact d
  ·rw[c]at d;cases d
 |tgtRE a b c d ih=>
  intro y' e' k' h2
  obtain⟨z',ea,ka,hb',h3⟩:=h2.inv_tgt a
  obtain⟨rfl,rfl,rfl⟩:=ih hb'
  rcases h3 with⟨f,_⟩|⟨_,⟨f,_⟩|⟨Y,e0,f,g⟩⟩
  ·exact absurd rfl f
  ·rw[c]at f;cases f
  ·rw[c]at f;cases f
   rcases g with⟨_,g⟩|⟨g,_⟩|⟨g,_⟩
   ·exact g
   ·exact absurd g d
   ·exact absurd g d
 |tgtRL a b c d ih=>
  intro y' e' k' h2
  obtain⟨z',ea,ka,hb',h3⟩:=h2.inv_tgt a
  obtain⟨rfl,rfl,rfl⟩:=ih hb'
  rcases h3 with⟨f,_⟩|⟨_,⟨f,_⟩|⟨Y,e0,f,g⟩⟩
  ·exact absurd rfl f
  ·rw[c]at f;cases f
  ·rw[c]at f;cases f
   rcases g with⟨g,_⟩|⟨_,_,g⟩|⟨_,g,_⟩
   ·exact absurd rfl g
   ·exact g
   ·rw[d]at g;cases g
 |tgtR a b c d f ih ih2=>
  intro y' e' k' h2
  obtain⟨z',ea,ka,hb',h3⟩:=h2.inv_tgt a
  obtain⟨rfl,rfl,rfl⟩:=ih hb'
  rcases h3 with⟨f,_⟩|⟨_,⟨f,_⟩|⟨Y,e0,f,g⟩⟩
  ·exact absurd rfl f
  ·rw[c]at f;cases f
  ·rw[c]at f;cases f
   rcases g with⟨g,_⟩|⟨_,g,_⟩|⟨_,_,n,g,rfl⟩
   ·exact absurd rfl g
   ·rw[d]at g;cases g
   ·obtain⟨rfl,rfl,rfl⟩:=ih2 g;exact⟨rfl,rfl,rfl⟩
theorem On.det{Y Y':Tm}{d d':Bool}{e e' k k':Int}(h:On l x Y d e k)(h':On l x Y' d' e' k'):Y'=Y∧d'=d∧e'=e∧k'=k:=by
 cases h with
 |stop a=>
  cases h' with
  |stop _=>exact⟨rfl,rfl,rfl,rfl⟩
  |redE b=>rw[a]at b;cases b
  |redL b=>rw[a]at b;cases b
  |red b=>rw[a]at b;cases b
  |tgtE b=>rw[a]at b;cases b
  |tgtN b=>rw[a]at b;cases b
  |tgtRE b=>rw[a]at b;cases b
  |tgtRL b=>rw[a]at b;cases b
  |tgtR b=>rw[a]at b;cases b
 |redE a c=>
  cases h' with
  |redE b=>rw[a]at b;cases b;exact⟨rfl,rfl,rfl,rfl⟩
  |redL b=>rw[a]at b;cases b;exact absurd rfl c
  |red b=>rw[a]at b;cases b;exact absurd rfl c
  |stop b=>rw[a]at b;cases b
  |tgtE b=>rw[a]at b;cases b
  |tgtN b=>rw[a]at b;cases b
  |tgtRE b=>rw[a]at b;cases b
  |tgtRL b=>rw[a]at b;cases b
  |tgtR b=>rw[a]at b;cases b
 |redL a c=>
  cases h' with
  |redE b d=>rw[a]at b;cases b;exact absurd rfl d
  |redL b=>exact⟨rfl,rfl,rfl,rfl⟩
  |red b d=>rw[a]at b;cases b;rw[c]at d;cases d
  |stop b=>rw[a]at b;cases b
  |tgtE b=>rw[a]at b;cases b
  |tgtN b=>rw[a]at b;cases b
  |tgtRE b=>rw[a]at b;cases b
  |tgtRL b=>rw[a]at b;cases b
  |tgtR b=>rw[a]at b;cases b
 |red a c=>
  cases h' with
  |redE b d=>rw[a]at b;cases b;exact absurd rfl d
  |redL b d=>rw[a]at b;cases b;rw[c]at d;cases d
  |red b d=>rw[a]at b;cases b;exact⟨rfl,rfl,rfl,rfl⟩
  |stop b=>rw[a]at b;cases b
  |tgtE b=>rw[a]at b;cases b
  |tgtN b=>rw[a]at b;cases b
  |tgtRE b=>rw[a]at b;cases b
  |tgtRL b=>rw[a]at b;cases b
  |tgtR b=>rw[a]at b;cases b
 |tgtE a c f=>
  cases h' with
  |stop b=>rw[a]at b;cases b
  |redE b=>rw[a]at b;cases b
  |redL b=>rw[a]at b;cases b
  |red b=>rw[a]at b;cases b
  |tgtE b g=>rw[a]at b;cases b;obtain⟨-,rfl,rfl⟩:=c.det g;exact⟨rfl,rfl,rfl,rfl⟩
  |tgtN b g=>rw[a]at b;cases b;exact absurd (c.det g).2.1.symm f
  |tgtRE b g=>rw[a]at b;cases b;exact absurd (c.det g).2.1.symm f
  |tgtRL b g=>rw[a]at b;cases b;exact absurd (c.det g).2.1.symm f
  |tgtR b g=>rw[a]at b;cases b;exact absurd (c.det g).2.1.symm f
 |tgtN a c f=>
  cases h' with
  |stop b=>rw[a]at b;cases b
  |redE b=>rw[a]at b;cases b
  |redL b=>rw[a]at b;cases b
  |red b=>rw[a]at b;cases b
  |tgtE b g n=>rw[a]at b;cases b;exact absurd (c.det g).2.1 n
  |tgtN b g=>rw[a]at b;cases b;obtain⟨-,-,rfl⟩:=c.det g;exact⟨rfl,rfl,rfl,rfl⟩
  |tgtRE b g n=>rw[a]at b;cases b;obtain⟨rfl,-,-⟩:=c.det g;rw[f]at n;cases n
  |tgtRL b g n=>rw[a]at b;cases b;obtain⟨rfl,-,-⟩:=c.det g;rw[f]at n;cases n
  |tgtR b g n=>rw[a]at b;cases b;obtain⟨rfl,-,-⟩:=c.det g;rw[f]at n;cases n
 |tgtRE a c f n0=>
  cases h' with
  |stop b=>rw[a]at b;cases b
  |redE b=>rw[a]at b;cases b
  |redL b=>rw[a]at b;cases b
  |red b=>rw[a]at b;cases b
  |tgtE b g n=>rw[a]at b;cases b;exact absurd (c.det g).2.1 n
  |tgtN b g n=>rw[a]at b;cases b;obtain⟨rfl,-,-⟩:=c.det g;rw[f]at n;cases n
  |tgtRE b g n=>rw[a]at b;cases b;obtain⟨rfl,-,rfl⟩:=c.det g;rw[f]at n;cases n;exact⟨rfl,rfl,rfl,rfl⟩
  |tgtRL b g n=>rw[a]at b;cases b;obtain⟨rfl,-,-⟩:=c.det g;rw[f]at n;cases n;exact absurd rfl n0
  |tgtR b g n=>rw[a]at b;cases b;obtain⟨rfl,-,-⟩:=c.det g;rw[f]at n;cases n;exact absurd rfl n0
 |tgtRL a c f n0=>
  cases h' with
  |stop b=>rw[a]at b;cases b
  |redE b=>rw[a]at b;cases b
  |redL b=>rw[a]at b;cases b
  |red b=>rw[a]at b;cases b
  |tgtE b g n=>rw[a]at b;cases b;exact absurd (c.det g).2.1 n
  |tgtN b g n=>rw[a]at b;cases b;obtain⟨rfl,-,-⟩:=c.det g;rw[f]at n;cases n
  |tgtRE b g n m=>rw[a]at b;cases b;obtain⟨rfl,-,-⟩:=c.det g;rw[f]at n;cases n;exact absurd rfl m
  |tgtRL b g n=>rw[a]at b;cases b;obtain⟨rfl,-,rfl⟩:=c.det g;exact⟨rfl,rfl,rfl,rfl⟩
  |tgtR b g n m=>rw[a]at b;cases b;obtain⟨rfl,-,-⟩:=c.det g;rw[f]at n;cases n;rw[n0]at m;cases m
 |tgtR a c f n0=>
  cases h' with
  |stop b=>rw[a]at b;cases b
  |redE b=>rw[a]at b;cases b
  |redL b=>rw[a]at b;cases b
  |red b=>rw[a]at b;cases b
  |tgtE b g n=>rw[a]at b;cases b;exact absurd (c.det g).2.1 n
  |tgtN b g n=>rw[a]at b;cases b;obtain⟨rfl,-,-⟩:=c.det g;rw[f]at n;cases n
  |tgtRE b g n m=>rw[a]at b;cases b;obtain⟨rfl,-,-⟩:=c.det g;rw[f]at n;cases n;exact absurd rfl m
  |tgtRL b g n m=>rw[a]at b;cases b;obtain⟨rfl,-,-⟩:=c.det g;rw[f]at n;cases n;rw[n0]at m;cases m
  |tgtR b g n=>rw[a]at b;cases b;obtain⟨rfl,-,rfl⟩:=c.det g;rw[f]at n;cases n;exact⟨rfl,rfl,rfl,rfl⟩
end
theorem Br.shaped{l:List Ent}{x y:Tm}{e k:Int}(h:Br l x y e k):shapedT x=true->e=0->shapedT y=true:=by
 induction h with
 |stop _=>exact fun hs _=>hs
 |redE _ h=>exact fun _ he=>absurd he h
 |redL _ _=>exact fun _ he=>absurd he (by decide)
 |red _ hY _ ih=>exact fun _ he=>ih hY he
 |tgtE _ _ h _=>exact fun _ he=>absurd he h
 |tgtN _ _ _ _=>exact fun hs _=>hs
 |tgtRE _ _ _ h _=>exact fun _ he=>absurd he h
 |tgtRL _ _ _ _ _=>exact fun _ he=>absurd he (by decide)
 |tgtR _ _ _ hY _ _ ih=>exact fun _ he=>ih hY he
def RightM(l:List Ent)(x:Tm):Prop:=rightT x 1048577 l.length=true
instance (l:List Ent) (x:Tm):Decidable (RightM l x):=inferInstanceAs (Decidable (_=true))
theorem RightM.shaped{l:List Ent}{x:Tm}(h:RightM l x):shapedT x=true:=by
 unfold RightM rightT at h
 simp only[Bool.and_eq_true]at h
 exact h.1.1
structure Inv (l:List Ent) (I:Tm->Prop):Prop where
 spine:∀t,goodT t=true->I t->I (hdT t)∧∀a∈arT t,I a
 ap:∀f as0,I f->(∀a∈as0,I a)->I (apT f as0)
 beta:∀(n:Int) (a b x:Tm),I (.mk 4 n [a,b])->I x->I (siT [x] b 0)
 body:∀i:Int,0≤i->i<l.length->(ent l i).kind=3->I (ent l i).body
 step:∀(d:Int) (s:Tm) (lev c:Int) (args own:List Tm),I (.mk 7 d [s])->isT l c 2=true->(ent l c).fam=d->(args.length:Int)=(ent l d).pars+1+(ent l d).cons.length->own.length=(partsT l c).args.length->(∀a∈args,I a)->(∀a∈own,I a)->I (stepI l d lev c args own)
theorem act_inv{l:List Ent}{I:Tm->Prop}(hI:Inv l I){x Y:Tm}(hs:shapedT x=true)(hx:I x)(h:actT l x = .red Y 0):I Y:=by
 have hsp:=hI.spine x (shapedT_spec hs).2.2 hx
 have hg:=(shapedT_spec (hd_shaped hs)).2.2
 unfold actT at h
 by_cases h1:(hdT x).k=4∧0<(arT x).length
 ·rw[if_pos h1]at h
  have hm:nth (arT x) 0∈arT x:=nth_mem (by omega) (by omega)
  obtain⟨a,b,hab,-,-⟩:=nth_sub2 hg (.inr (.inl h1.1))
  have hhd:hdT x = .mk 4 (hdT x).n [a,b]:=by rw[←h1.1,←hab,tm_eta]
  injection h with hY he
  rw[(subT_id he).2.2.2]at hY
  rw[←hY]
  refine hI.ap _ _ ?_ fun y hy=>hsp.2 y (List.mem_of_mem_drop hy)
  have hb:nth (hdT x).sub 1=b:=by rw[hab];rfl
  rw[hb]
  exact hI.beta (hdT x).n a b _ (by rw[←hhd];exact hsp.1) (hsp.2 _ hm)
 ·rw[if_neg h1]at h
  by_cases h2:kindT l (hdT x)=3
  ·rw[if_pos h2]at h
   injection h with hY he
   rw[←hY]
   have hk:=kindT_spec h2 (by decide)
   exact hI.ap _ _ (hI.body _ (good_n hg) hk.2.1 hk.2.2) hsp.2
  ·rw[if_neg h2]at h
   split at h
   ·split at h<;>cases h
   ·split at h
    ·split at h<;>cases h
    ·cases h
theorem act_tgt{N:ByteArray->Bool}{l:List Ent}(hE:AllE N l){x a:Tm}(hs:shapedT x=true)(h:actT l x = .tgt a):a∈arT x∧(kindT l (hdT x)=4∨((hdT x).k=7∧isT l (hdT x).n 1=true∧argsT (ent l (hdT x).n)≤(arT x).length)):=by
 have hn:=good_n (shapedT_spec (hd_shaped hs)).2.2
 unfold actT at h
 by_cases h1:(hdT x).k=4∧0<(arT x).length
 ·rw[if_pos h1]at h;cases h
 ·rw[if_neg h1]at h
  by_cases h2:kindT l (hdT x)=3
  ·rw[if_pos h2]at h;cases h
  ·rw[if_neg h2]at h
   by_cases h3:kindT l (hdT x)=4
   ·rw[if_pos h3]at h
    split at h
    ·cases h
    ·injection h with h
     have hk:=kindT_spec h3 (by decide)
     have hp:=(entryT_spec (hE.2 _ hn hk.2.1)).2.2.2.1 hk.2.2
     unfold projT at hp
     simp only[Bool.and_eq_true]at hp
     have hw:=ownedT_spec hp.1
     have hfam:=familyT_spec ((entryT_spec (hE.2 _ hw.1 (by omega))).2.1 hw.2.2.1)
     rw[←h]
     exact⟨nth_mem (by omega) (by omega),.inl h3⟩
   ·rw[if_neg h3]at h
    by_cases h4:(hdT x).k=7
    ·rw[if_pos h4]at h
     split at h
     ·rename_i h5
      injection h with h
      have hi:=isT_spec h5.1
      have hfam:=familyT_spec ((entryT_spec (hE.2 _ hi.1 hi.2.1)).2.1 hi.2.2)
      have h6:=h5.2
      unfold argsT at h6 h
      rw[if_pos hi.2.2]at h6 h
      rw[←h]
      exact⟨nth_mem (by omega) (by omega),.inr ⟨h4,h5⟩⟩
     ·cases h
    ·rw[if_neg h4]at h;cases h
theorem react_inv{N:ByteArray->Bool}{l:List Ent}{I:Tm->Prop}(hE:AllE N l)(hI:Inv l I){x y Y a:Tm}(hs:shapedT x=true)(hsy:shapedT y=true)(hx:I x)(hy:I y)(ha:actT l x = .tgt a)(h:reactT l x y=some (Y,0)):I Y:=by
 have hsp:=hI.spine x (shapedT_spec hs).2.2 hx
 have hsy2:=hI.spine y (shapedT_spec hsy).2.2 hy
 have hg:=(shapedT_spec (hd_shaped hs)).2.2
 have hox:OkA (arT x):=fun z hz=>shaped_ok (ar_shaped hs hz)
 have hoy:OkA (arT y):=fun z hz=>shaped_ok (ar_shaped hsy hz)
 have hlx:(arT x).length≤8192:=by
  have h:=shapedT_spec hs
  have:=ar_len _ h.2.2
  omega
 have hly:(arT y).length≤8192:=by
  have h:=shapedT_spec hsy
  have:=ar_len _ h.2.2
  omega
 have hca:=(act_tgt hE hs ha).2
 unfold reactT at h
 by_cases h4:kindT l (hdT x)=4
 ·rw[if_pos h4]at h
  split at h
  ·simp only[Option.some.injEq,Prod.mk.injEq]at h
   have hX:=(fieldX_spec l (hdT x).n ((arT y).drop (ent l (hdT y).n).pars.toNat) hE (hoy.drop _) (by rw[List.length_drop];omega)).2.2.2 h.2
   rw[←h.1]
   refine hI.ap _ _ ?_ fun z hz=>hsp.2 z (List.mem_of_mem_drop hz)
   rw[hX.2.2.2]
   exact hsy2.2 _ (List.mem_of_mem_drop (nth_mem hX.2.1 hX.2.2.1))
  ·cases h
 ·rw[if_neg h4]at h
  obtain⟨h7,-,-⟩:=hca.resolve_left h4
  split at h
  ·simp only[Option.some.injEq,Prod.mk.injEq]at h
   have hX:=(stepX_spec l (hdT x).n (nth (hdT x).sub 0).n (hdT y).n ((arT x).take ((ent l (hdT x).n).pars+1+(ent l (hdT x).n).cons.length).toNat) ((arT y).drop (ent l (hdT x).n).pars.toNat) hE (hox.take _) (hoy.drop _) (by rw[List.length_take];omega) (by rw[List.length_drop];omega)).2.2.2 h.2
   rw[←h.1]
   refine hI.ap _ _ ?_ fun z hz=>hsp.2 z (List.mem_of_mem_drop hz)
   obtain⟨-,-,b1,b2,b3,b4,-,-,b5,-⟩:=hX
   rw[b5]
   obtain⟨s,hsb⟩:∃s,(hdT x).sub=[s]:=by
    revert hg h7
    generalize hdT x=w
    intro hg h7
    obtain⟨kk,nn,ss⟩:=w
    obtain⟨s,hs,-⟩:=(head_spec (goodT_mk hg).1).2.2.2.2.2.2.1 h7
    exact⟨s,hs⟩
   have hhd:hdT x = .mk 7 (hdT x).n [s]:=by rw[←h7,←hsb,tm_eta]
   exact hI.step _ s _ _ _ _ (by rw[←hhd];exact hsp.1) b1 b2 b3 b4 (fun z hz=>hsp.2 z (List.mem_of_mem_take hz)) (fun z hz=>hsy2.2 z (List.mem_of_mem_drop hz))
  ·cases h
theorem Br.inv{N:ByteArray->Bool}{l:List Ent}{I:Tm->Prop}(hE:AllE N l)(hI:Inv l I){x y:Tm}{e k:Int}(h:Br l x y e k):shapedT x=true->e=0->I x->I y:=by
 induction h with
 |stop _=>exact fun _ _ hx=>hx
 |redE _ h=>exact fun _ he=>absurd he h
 |redL _ _=>exact fun _ he=>absurd he (by decide)
 |red a hY _ ih=>exact fun hs he hx=>ih hY he (act_inv hI hs hx a)
 |tgtE _ _ h _=>exact fun _ he=>absurd he h
 |tgtN _ _ _ _=>exact fun _ _ hx=>hx
 |tgtRE _ _ _ h _=>exact fun _ he=>absurd he h
 |tgtRL _ _ _ _ _=>exact fun _ he=>absurd he (by decide)
 |tgtR a b c hY _ ih ih2=>
  intro hs he hx
  have hm:=(act_tgt hE hs a).1
  have hsa:=ar_shaped hs hm
  exact ih2 hY he (react_inv hE hI hs (b.shaped hsa rfl) hx (ih hsa rfl ((hI.spine _ (shapedT_spec hs).2.2 hx).2 _ hm)) a c)
section
variable (l:List Ent) (c:Case') (p:Two) (r4:Tm×Int)
theorem ev_namesB(hpl:p.b.length≤40):∀(r:List Tm) (v:Nat) (H F:List Int),p.b.drop v=r->(∀t∈r,shapedT t=true)->H.length+8192*r.length≤1073741824->F.length+8192*r.length≤1073741824 ->
  (∀H' F':List Int,(∀y∈H,y∈H')->(∀y∈F,y∈F')->(∀t∈r,(∀y∈colT t 6 7,y∈H')∧∀y∈colT t 8 8,y∈F')->H'.length≤H.length+8192*r.length->F'.length≤F.length+8192*r.length->Evt (fun q=>e6Lck q l c p r4 F' H') true) ->
  Evt (fun q=>e6Lcl q l c p r4 F (v:Int) H) true
 | [],v,H,F,hd,hs,hb,hb2,K=>by
  refine Evt.succ ?_
  simp only[e6Lcl]
  exact Evt.ifF (drop_nil hd) (K H F (fun y h=>h) (fun y h=>h) (fun t h=>nomatch h) (by simp) (by simp))
 |t::r,v,H,F,hd,hs,hb,hb2,K=>by
  have hlt:=drop_lt hd
  rw[List.length_cons]at hb hb2
  obtain⟨o,h1,h2,h3⟩:=ev_nums (hs t (by simp)) 6 7
  obtain⟨o',i1,i2,i3⟩:=ev_nums (hs t (by simp)) 8 8
  refine Evt.succ ?_
  simp only[e6Lcl]
  refine Evt.ifT (drop_dec hd) (Evt.pure (drop_idx hd) (h1.bind (Evt.pure (gapp_ok (by omega)) (i1.bind (Evt.pure (gapp_ok (by omega)) ?_)))))
  rw[w64_nat v (by omega)]
  refine ev_namesB hpl r (v+1) (H++o) (F++o') (drop_next hd) (fun y hy=>hs y (by simp[hy])) (by rw[List.length_append];omega) (by rw[List.length_append];omega) fun H' F' k1 k2 k3 k4 k5=>K H' F' (fun y hy=>k1 y (by simp[hy])) (fun y hy=>k2 y (by simp[hy])) (fun y hy=>?_) (by rw[List.length_append]at k4;rw[List.length_cons];omega) (by rw[List.length_append]at k5;rw[List.length_cons];omega)
  rcases List.mem_cons.1 hy with rfl|hy
  ·exact⟨fun z hz=>k1 z (List.mem_append_right _ ((h3 z).2 hz)),fun z hz=>k2 z (List.mem_append_right _ ((i3 z).2 hz))⟩
  ·exact k3 y hy
theorem ev_namesA(hpl:p.a.length≤40):∀(r:List Tm) (v:Nat) (H F:List Int),p.a.drop v=r->(∀t∈r,shapedT t=true)->H.length+8192*r.length≤1073741824->F.length+8192*r.length≤1073741824 ->
  (∀H' F':List Int,(∀y∈H,y∈H')->(∀y∈F,y∈F')->(∀t∈r,(∀y∈colT t 6 7,y∈H')∧∀y∈colT t 8 8,y∈F')->H'.length≤H.length+8192*r.length->F'.length≤F.length+8192*r.length->Evt (fun q=>e6Lcm q l c p r4 F' H') true) ->
  Evt (fun q=>e6Lcn q l c p r4 F (v:Int) H) true
 | [],v,H,F,hd,hs,hb,hb2,K=>by
  refine Evt.succ ?_
  simp only[e6Lcn]
  exact Evt.ifF (drop_nil hd) (K H F (fun y h=>h) (fun y h=>h) (fun t h=>nomatch h) (by simp) (by simp))
 |t::r,v,H,F,hd,hs,hb,hb2,K=>by
  have hlt:=drop_lt hd
  rw[List.length_cons]at hb hb2
  obtain⟨o,h1,h2,h3⟩:=ev_nums (hs t (by simp)) 6 7
  obtain⟨o',i1,i2,i3⟩:=ev_nums (hs t (by simp)) 8 8
  refine Evt.succ ?_
  simp only[e6Lcn]
  refine Evt.ifT (drop_dec hd) (Evt.pure (drop_idx hd) (h1.bind (Evt.pure (gapp_ok (by omega)) (i1.bind (Evt.pure (gapp_ok (by omega)) ?_)))))
  rw[w64_nat v (by omega)]
  refine ev_namesA hpl r (v+1) (H++o) (F++o') (drop_next hd) (fun y hy=>hs y (by simp[hy])) (by rw[List.length_append];omega) (by rw[List.length_append];omega) fun H' F' k1 k2 k3 k4 k5=>K H' F' (fun y hy=>k1 y (by simp[hy])) (fun y hy=>k2 y (by simp[hy])) (fun y hy=>?_) (by rw[List.length_append]at k4;rw[List.length_cons];omega) (by rw[List.length_append]at k5;rw[List.length_cons];omega)
  rcases List.mem_cons.1 hy with rfl|hy
  ·exact⟨fun z hz=>k1 z (List.mem_append_right _ ((h3 z).2 hz)),fun z hz=>k2 z (List.mem_append_right _ ((i3 z).2 hz))⟩
  ·exact k3 y hy
end
theorem ev_awake13:Evt (fun q=>e28 q) true:=⟨200,fun q hq=>by
 obtain⟨n,rfl⟩:∃n,q=n+200:=⟨q-200,by omega⟩
 kernel_rfl⟩
theorem tot_light13(l:List Ent)(a b:List Tm):∃g,Evt (fun q=>e27 q l a b) g∧(g=true->l.length≤300∧a.length≤40∧b.length≤40):=by
 simp only[e27]
 by_cases h1:l.length≤300
 ·by_cases h2:a.length≤40
  ·exact⟨_,Evt.ifT (decide_eq_true (by omega)) (Evt.ifT (decide_eq_true (by omega)) Evt.ret),fun h=>⟨h1,h2,by have:=of_decide_eq_true h;omega⟩⟩
  ·exact⟨false,Evt.ifT (decide_eq_true (by omega)) (Evt.ifF (decide_eq_false (by omega)) Evt.ret),fun h=>nomatch h⟩
 ·exact⟨false,Evt.ifF (decide_eq_false (by omega)) Evt.ret,fun h=>nomatch h⟩
theorem tot_iStep(l:List Ent)(d lev c:Int)(a b:List Tm)(hl:l.length≤300)(he:∀e∈l,EOk e)(hc:∀e∈l,ECl e)(ha:OkA a)(hb:OkA b)(hla:a.length≤40)(hlb:b.length≤40) :
  Tot (fun q=>e29 q l d lev c a b) (fun x=>(x.2≠0->x.1 = .mk 0 0 [])∧(x.2=0->∃N,AllE N l∧StepOk l d lev c a b x)):=by
 obtain⟨N,hN⟩:=names_by
 obtain⟨g,hg,hA,hn⟩:=ev_iNew N hN l (by omega) he hc
 simp only[e29]
 refine Tot.bind (P:=fun y=>y=rulesT l g) (hn.tot rfl) fun y hy=>?_
 subst hy
 unfold rulesT
 cases g with
 |false=>exact Tot.ret ⟨fun _=>rfl,fun h=>absurd h (by decide)⟩
 |true=>
  have hE:=hA rfl
  refine Tot.bind (P:=fun x=>StepOk l d lev c a b x∧(x.2≠0->x.1 = .mk 0 0 [])) ?_ fun x hx=>Tot.ret ⟨hx.2,fun h=>⟨N,hE,hx.1⟩⟩
  obtain⟨x,hx,hP⟩:=tot_Step (N:=N) l d lev c a b hE ha hb (by omega) (by omega)
  obtain⟨q,hq⟩:=hx.at
  exact⟨x,hx,hP,step_zero hq⟩
theorem ev_IotaNames(l:List Ent)(c:Case')(p:Two)(he:∀e∈l,EOk e)(hc:∀e∈l,ECl e)(ha:OkA p.a)(hb:OkA p.b):Evt (fun q=>e6 q l c p) true:=by
 simp only[e6]
 have aw:Evt (fun q=>e28 q>>=fun r=>some r) true:=ev_awake13.bind Evt.ret
 obtain⟨g,hg,hg'⟩:=tot_light13 l p.a p.b
 refine hg.bind ?_
 cases g with
 |false=>exact Evt.ifF rfl aw
 |true=>
 obtain⟨hl,hla,hlb⟩:=hg' rfl
 refine Evt.ifT rfl ?_
 obtain⟨x,hx,h0,h1⟩:=tot_iStep l c.D c.Level c.C p.a p.b hl he hc ha hb hla hlb
 refine hx.bind ?_
 by_cases hz:x.2=0
 ·refine Evt.ifF (by simp[hz]) ?_
  obtain⟨N,hE,-,-,hS⟩:=h1 hz
  obtain⟨-,-,hC,-,-,hol,hsa,hsb,ht,hts⟩:=hS hz
  have hi:=isT_spec hC
  obtain⟨A,y,hw,-,-,-,hA24,-⟩:=con_facts hE hi.1 hi.2.1 hi.2.2
  have hlen:(partsT l c.C).recs.length=(partsT l c.C).args.length:=by unfold partsT;exact recsT_len l _ _ _
  have h24:(partsT l c.C).recs.length≤40:=by omega
  simp only[e6Lco]
  refine ev_namesA l c p x hla p.a 0 [c.D] [] rfl (by simpa using hsa) (by simp;omega) (by simp;omega) fun H F a1 a2 a3 a4 a5=>?_
  simp only[e6Lcm]
  refine ev_namesB l c p x hlb p.b 0 H F rfl (by simpa using hsb) (by simp at a4;omega) (by simp at a5;omega) fun H' F' b1 b2 b3 b4 b5=>?_
  simp only[e6Lck]
  refine(ev_rParts l c.C hE hi.1 hi.2.1 hi.2.2).bind ?_
  refine ev_recs x F' (partsT l c.C) parts_s h24 (partsT l c.C).recs 0 H' rfl (by simp at a4;omega) fun H'' c1 c2 c3 v hv=>?_
  refine Evt.succ ?_
  simp only[e6Lch]
  refine Evt.ifF (decide_eq_false (by omega)) ?_
  have hcol:∀t:Tm,(∀y∈colT t 6 7,y∈H'')->(∀y∈colT t 8 8,y∈F')->AllN (fun k n=>(k=6∨k=7->n∈H'')∧(k=8->n∈F')) t:=fun t u1 u2=>
   allN_and' (fun k n a b=>⟨a,fun h=>b (.inl h)⟩) t ((allN_col (by decide) (by decide) t).1 u1) ((allN_col (by decide) (by decide) t).1 u2)
  have hcl:∀r∈(partsT l c.C).recs,(∀t∈r.around,AllN (fun k _=>k≠8) t)∧∀t∈r.at',AllN (fun k _=>k≠8) t:=
   allN_parts (by rw[hw]) (allN_mono (fun k n h=>h.2) (closed_nodes (entryT_spec (hE.2 _ hi.1 hi.2.1)).1))
  have hlo:∀t:Tm,(∀y∈colT t 6 7,y∈H'')->AllN (fun k _=>k≠8) t->AllN (fun k n=>(k=6∨k=7->n∈H'')∧(k=8->n∈F')) t:=fun t u1 u2=>
   allN_and' (fun k n a b=>⟨a,fun h=>absurd h b⟩) t ((allN_col (by decide) (by decide) t).1 u1) u2
  have hall:AllN (fun k n=>(k=6∨k=7->n∈H'')∧(k=8->n∈F')) x.1:=by
   rw[ht]
   refine allN_step ⟨fun h=>by omega,fun h=>by omega⟩ ⟨fun h=>by omega,fun h=>by omega⟩ ⟨fun h=>by omega,fun h=>by omega⟩ ⟨fun h=>by omega,fun h=>by omega⟩ ⟨fun _=>c1 _ (b1 _ (a1 _ (by simp))),fun h=>by omega⟩ (fun t ht=>hcol t (fun y hy=>c1 y (b1 y ((a3 t ht).1 y hy))) fun y hy=>b2 y ((a3 t ht).2 y hy)) (fun t ht=>hcol t (fun y hy=>c1 y ((b3 t ht).1 y hy)) fun y hy=>(b3 t ht).2 y hy) fun r hr=>⟨fun t ht=>hlo t ((c2 r hr).1 t ht) ((hcl r hr).1 t ht),fun t ht=>hlo t ((c2 r hr).2 t ht) ((hcl r hr).2 t ht)⟩
  obtain⟨o,h1,h2,h3⟩:=ev_nums hts 6 7
  obtain⟨o',i1,i2,i3⟩:=ev_nums hts 8 8
  refine h1.bind ((ev_within o H'' (by omega) (by omega) fun y hy=>?_).bind (Evt.ifT rfl (i1.bind ((ev_within o' F' (by omega) (by simp at a5 b5;omega) fun y hy=>?_).bind (Evt.ifT rfl aw)))))
  ·exact(allN_col (by decide) (by decide) x.1).2 (allN_mono (fun k n h=>h.1) hall) y ((h3 y).1 hy)
  ·exact(allN_col (by decide) (by decide) x.1).2 (allN_mono (fun k n h h'=>h.2 (by omega)) hall) y ((i3 y).1 hy)
 ·refine Evt.ifT (by simpa using hz) (Evt.ifT (by rw[h0 hz];rfl) aw)
theorem rdE_ok{l:List Ent}(h:∀e∈l,RdE e):∀e∈l,EOk e:=fun e he=>⟨(h e he).1,(h e he).2.1,Nat.le_trans (h e he).2.2.1 (by decide),Nat.le_trans (h e he).2.2.2 (by decide)⟩
theorem rdE_cl{l:List Ent}(h:∀e∈l,RdE e):∀e∈l,ECl e:=fun e he=>⟨(h e he).2.2.1,(h e he).2.2.2⟩
theorem okA_of:∀l:List Tm,OkL l->OkA l
 | [],_=>OkA.nil
 |t::l,h=>fun x hx=>by
  rw[OkL]at h
  rcases List.mem_cons.1 hx with rfl|hx
  ·exact h.1
  ·exact okA_of l h.2 x hx
theorem iotaNames_ct(l:List Ent)(c:Case')(p:Two)(w0:∀e∈l,RdE e)(w1:RdCase' c)(w2:RdTwo p):CT Tryz.prog 6 [] [.sl (flat entL l) l.length .no,.agg (caseL c),.agg (twoL p)] (ab true) [] 0:=by
 obtain⟨q,hq⟩:=(ev_IotaNames l c p (rdE_ok w0) (rdE_cl w0) (okA_of _ w2.1.1) (okA_of _ w2.2.1)).at
 exact c6 hq
end Go.Proofs.YtmfcobjnlabpoaaGreat
