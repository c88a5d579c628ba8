/- Parts of the proof that the law returns true: walks of the functions, plain laws. -/
import Derived.Test.YtedhamlfcienmaaGreatAbB2
set_option linter.unusedVariables false
set_option linter.unusedSimpArgs false
set_option linter.unusedSectionVars false
namespace Go.Ab
open Go Go.RowKit Go.Sort
structure L3 where
 a:Value
 b:Value
 c:Value
 ha:a.oneCell'=true
 hb:b.oneCell'=true
 hc:c.oneCell'=true
instance:Inhabited L3:=⟨⟨.int .i64 0,.int .i64 0,.int .i64 0,rfl,rfl,rfl⟩⟩
def L3.vs(x:L3):List Value:=[x.a,x.b,x.c]
def c3(x:L3):List AV:=[.val x.a,.val x.b,.val x.c]
theorem codec3:Codec c3 3:=⟨fun _=>rfl,fun _=>⟨trivial,trivial,trivial,trivial⟩,fun x=>by simp[c3,AV.one,x.ha,x.hb,x.hc]⟩
def vals(l:List L3):List Value:=l.flatMap L3.vs
theorem flat_c3:∀l:List L3,flat c3 l=(vals l).map .val
 | []=>rfl
 |x::l=>by
  have:=flat_c3 l
  simp only[flat,vals]at this
  simp only[flat,vals,List.flatMap_cons,List.map_append,this];rfl
theorem vals_len:∀l:List L3,(vals l).length=l.length*3
 | []=>rfl
 |x::l=>by
  have:=vals_len l
  simp only[vals]at this
  simp only[vals,List.flatMap_cons,List.length_append,this,L3.vs,List.length_cons,List.length_nil];omega
theorem vals_get:∀(l:List L3) (i c:Nat) (hi:i<l.length) (hc:c<3),(vals l)[i*3+c]? = some ((l[i].vs)[c]'(by simpa[L3.vs]using hc))
 |x::l,0,c,_,hc=>by
  simp only[vals,List.flatMap_cons,Nat.zero_mul,Nat.zero_add,List.getElem_cons_zero]
  rw[List.getElem?_append_left (by simpa[L3.vs]using hc),List.getElem?_eq_getElem]
 |x::l,i+1,c,hi,hc=>by
  have:=vals_get l i c (by simpa using hi) hc
  simp only[vals]at this
  simp only[vals,List.flatMap_cons,List.getElem_cons_succ]
  rw[List.getElem?_append_right (by simp[L3.vs];omega)]
  rw[←this];congr 1;simp[L3.vs];omega
theorem vals_at(l:List L3)(t:Nat)(ht:t<l.length*3):(vals l)[t]? = some (L3.vs l.toArray[t / 3]!)[t % 3]!:=by
 have h1:t / 3<l.length:=by omega
 have h2:t % 3<3:=Nat.mod_lt _ (by omega)
 have:=vals_get l (t / 3) (t % 3) h1 h2
 rw[show t / 3*3+t % 3=t by omega]at this
 rw[this]
 have e:l.toArray[t / 3]! = l[t / 3]:=by simp[h1]
 rw[e]
 have h3:t % 3<l[t / 3].vs.length:=by simpa[L3.vs]using h2
 simp[h3]
theorem holds_vals{w:World}{b off:Nat}{l:List L3}(hcell:∀i (h:i<(vals l).length),w.cell? ⟨b,off+i,none⟩=some (vals l)[i])(hfr:∀o,w.frozen? ⟨b,o,none⟩=false):HoldsK L3.vs 3 w b off l.toArray:=by
 intro t ht
 have ht':t<l.length*3:=by simpa using ht
 refine⟨?_,hfr _⟩
 have hlt:t<(vals l).length:=by rw[vals_len];exact ht'
 rw[hcell t hlt,get_flatK _ _ _ _ (by simpa using ht')]
 have:=vals_at l t ht'
 rw[List.getElem?_eq_getElem hlt]at this
 exact this
theorem vals_holds{w:World}{b off:Nat}{l:List L3}(h:HoldsK L3.vs 3 w b off l.toArray):∀i (h:i<(vals l).length),w.cell? ⟨b,off+i,none⟩=some (vals l)[i]:=by
 intro t ht
 have ht':t<l.length*3:=by rw[vals_len]at ht;exact ht
 rw[(h t (by simpa using ht')).1,get_flatK _ _ _ _ (by simpa using ht')]
 have:=vals_at l t ht'
 rw[List.getElem?_eq_getElem ht]at this
 exact this.symm
end Go.Ab
namespace Go.Proofs.YtedhamlfcienmaaGreat
open Go Go.Ab Go.RowKit Go.Sort Go.Proofs
theorem rev_some{w:World}{b off cap:Nat}{l:List L3}(hH:HoldsK L3.vs 3 w b off l.toArray)(hsz:l.length≤9223372036854775807) :
  Calls Tryz.prog 68 #[.slice (some ⟨b,off,none⟩) l.length cap] w fun e w'=>e = .returned (.tuple #[])∧Keep (fun c=>c<w.heap.size∧c≠b) w w'∧∀i (h:i<(vals l.reverse).length),w'.cell? ⟨b,off+i,none⟩=some (vals l.reverse)[i]:=by
 have h1:∀x:L3,∀v∈x.vs,v.oneCell'=true:=by
  intro x v hv
  simp only[L3.vs,List.mem_cons,List.not_mem_nil,or_false]at hv
  rcases hv with rfl|rfl|rfl
  ·exact x.ha
  ·exact x.hb
  ·exact x.hc
 have:=AnyQ.slices_Reverse Tryz.revT 3 Tryz.isAgg31 Tryz.sizeOf31 L3.vs (fun _=>rfl) h1 b off cap l.toArray w hH (by simpa using hsz)
 refine Calls.mono (this:Calls Tryz.prog 68 _ w _) ?_
 rintro e w' ⟨rfl,n,rfl⟩
 refine⟨rfl,Keep.putRow _ w n b off _,?_⟩
 have:=holdsK_putRowK L3.vs 3 (Sort.ahead w n) b off l.toArray l.toArray.reverse hH (by simp)
 refine vals_holds ?_
 simpa using this
theorem V.st3{G:Gh}{w:World}{k n:Nat}{es:List AV}{u u':Value}(hn:n≠0)(h:V G w (.sl es n (.st k 3)) u)(h':V G w (.sl es n (.st k 3)) u')(_hes:es.length=n*3):u=u':=by
 simp only[V]at h h'
 obtain⟨cap,hc,⟨_,h0,_⟩|⟨b,off,rfl,_,_,ho⟩⟩:=h
 ·exact(hn h0).elim
 obtain⟨cap',hc',⟨_,h0,_⟩|⟨b',off',rfl,_,_,ho'⟩⟩:=h'
 ·exact(hn h0).elim
 rcases ho with ho|⟨_,_,ho⟩
 ·exact(hn ho.1).elim
 rcases ho' with ho'|⟨_,_,ho'⟩
 ·exact(hn ho'.1).elim
 rw[ho]at ho'
 simp only[Option.some.injEq,Prod.mk.injEq]at ho'
 obtain⟨rfl,e1,e2⟩:=ho'
 have:off=off':=by omega
 subst this
 have:cap=cap':=by omega
 subst this
 rfl
theorem rev_call{G:Gh}{w:World}{s:LSt}{k:Nat}{l:List L3}{u:Value}(hR:RelS G (over (Emp 0) s) w)(ho:s.own.any (Nat.beq k)=true)(hsz:l.length≤9223372036854775807)(hu:V G w (.sl (flat c3 l) l.length (.st k 3)) u) :
  Calls Tryz.prog 68 #[u] w fun e w'=>∃(v:Value) (b:Nat) (S:Nat->Nat->Prop),e = .returned v∧¬G.F b∧(∀i,G.ρ i≠some b)∧Keep (fun c=>c<w.heap.size∧c≠b) w w' ∧
   (∀c o,S c o->c=b∧∃x,w'.cell? ⟨c,o,none⟩=some x)∧v = .tuple #[]∧∀G',(∀c o,S c o->G'.L c o)->∀es,VL G' w' es (vals l.reverse)->∀u',V G w (.sl (flat c3 l) l.length (.st k 3)) u'->V G' w' (.sl es l.length .no) u':=by
 by_cases hl:l=[]
 ·subst hl
  have hp:∃p cap,u = .slice p 0 cap:=by
   simp only[V]at hu
   obtain⟨cap,_,⟨_,_,_,h,_⟩|⟨b,off,h,_⟩⟩:=hu
   ·exact⟨_,_,h⟩
   ·exact⟨_,_,h⟩
  obtain⟨p,cap,rfl⟩:=hp
  refine Calls.mono (AnyQ.slices_Reverse_empty Tryz.revT p cap w:Calls Tryz.prog 68 _ w _) ?_
  rintro e w' ⟨rfl,rfl⟩
  refine⟨_,w'.heap.size,fun _ _=>False,rfl,fun h=>Nat.lt_irrefl _ (hR.base _ h),fun i hi=>Nat.lt_irrefl _ (hR.ρ_lt hi),Keep.refl _ _,fun _ _ h=>h.elim,rfl,fun G' _ es hes u' hu'=>?_⟩
  have hes':es=[]:=by
   have:=VL.length _ _ hes
   exact List.length_eq_zero_iff.1 this.symm
  subst hes'
  refine V.none (G:=G) (w:=w') ?_
  simp only[V]at hu' ⊢
  obtain⟨cap',h1,⟨_,_,h2,h3,_⟩|⟨b,off,h2,_,_⟩⟩:=hu'
  ·exact⟨cap',h1,.inl ⟨trivial,trivial,h2,h3,trivial⟩⟩
  ·exact⟨cap',h1,.inr ⟨b,off,h2,by simp only[VC],trivial⟩⟩
 ·have hn:l.length≠0:=fun h=>hl (List.length_eq_zero_iff.1 h)
  have hlen:(flat c3 l).length=l.length*3:=flat_len codec3.len l
  have huniq:∀u',V G w (.sl (flat c3 l) l.length (.st k 3)) u'->u=u':=fun u' h=>V.st3 hn hu h hlen
  simp only[V]at hu
  obtain⟨cap,hcap,⟨_,h0,_⟩|⟨b,off,rfl,hC,hq,hO⟩⟩:=hu
  ·exact(hn h0).elim
  rcases hO with⟨h0,_⟩|⟨hm,hF,hτ⟩
  ·exact(hn h0).elim
  obtain⟨b',f,t,q1,q2⟩:=hR.own k (by rw[over_own];exact ho)
  rw[hτ]at q1
  cases q1
  rcases q2 with q2|⟨_,q3,_,vs,T,q5,q6⟩
  ·rw[hlen]at q2
   have:=Nat.mul_le_mul_right 3 hcap
   omega
  obtain⟨us,h1,h2⟩:=VC.cells _ _ _ hC
  rw[flat_c3]at h1
  have hus:=VL.litEq _ us h1
  subst hus
  have hH:HoldsK L3.vs 3 w b off l.toArray:=holds_vals h2 (fun o=>by simp[World.frozen?,q5])
  refine(rev_some (cap:=cap) hH hsz).mono ?_
  rintro e w' ⟨rfl,hK,hcell⟩
  refine⟨_,b,fun c o=>c=b∧off≤o∧o<off+(vals l.reverse).length,rfl,hF,q3,hK,?_,rfl,fun G' hS es hes u' hu'=>?_⟩
  ·rintro c o ⟨rfl,h1,h2⟩
   exact⟨rfl,(vals l.reverse)[o-off]'(by omega),by have:=hcell (o-off) (by omega);rwa[show off+(o-off)=o by omega]at this⟩
  ·rw[←huniq u' hu']
   simp only[V]
   exact⟨cap,hcap,.inr ⟨b,off,rfl,VC.of_cells es _ b off hes (fun i hi=>hS _ _ ⟨rfl,by omega,by omega⟩) hcell,trivial⟩⟩
end Go.Proofs.YtedhamlfcienmaaGreat
namespace Go.Ab
open Go Go.RowKit
def smapE:List (ByteArray×Int)->Nat->List MapEntry
 | [],_=>[]
 |p::m,c=>{ key:=.string p.1,val:=.int .i64 p.2,born:=c } :: smapE m (c+1)
def smap(m:List (ByteArray×Int)):Blk:=.obj (.map ⟨smapE m 0⟩ m.length)
def mget:List (ByteArray×Int)->ByteArray->Int
 | [],_=>0
 |p::m,k=>if (k==p.1)=true then p.2 else mget m k
def mset:List (ByteArray×Int)->ByteArray->Int->List (ByteArray×Int)
 | [],k,v=>[(k,v)]
 |p::m,k,v=>if (k==p.1)=true then(k,v)::m else p::mset m k v
def midx:List (ByteArray×Int)->ByteArray->Nat->Option (Nat×Value)
 | [],_,_=>none
 |p::m,k,i=>if (k==p.1)=true then some (i,.int .i64 p.2)else midx m k (i+1)
theorem findNow_smap(k:ByteArray):∀(m:List (ByteArray×Int)) (c i:Nat),Instr.findNow .string (.string k) (smapE m c) i=some (midx m k i)
 | [],_,_=>rfl
 |p::m,c,i=>by
  simp only[smapE,Instr.findNow,Instr.sameNow,midx]
  cases hb:(k==p.1)with
  |true=>rfl
  |false=>simp only[Bool.false_eq_true,if_false];exact findNow_smap k m (c+1) (i+1)
theorem midx_get(k:ByteArray):∀(m:List (ByteArray×Int)) (i:Nat),mval (midx m k i) (.int .i64 0)=ai (mget m k)
 | [],_=>rfl
 |p::m,i=>by
  simp only[midx,mget]
  cases hb:(k==p.1)with
  |true=>rfl
  |false=>simp only[Bool.false_eq_true,if_false];exact midx_get k m (i+1)
theorem midx_set(k:ByteArray)(v:Int):∀(m:List (ByteArray×Int)) (c i:Nat),
    (match midx m k i with
      |some (j,_)=>i≤j∧(smapE m c).modify (j-i) (fun e=>{ e with key:=.string k,val:=.int .i64 v })=smapE (mset m k v) c∧(mset m k v).length=m.length
      |none=>smapE m c++[{ key:=.string k,val:=.int .i64 v,born:=c+m.length }]=smapE (mset m k v) c∧(mset m k v).length=m.length+1)
  | [],c,i=>by simp[midx,mset,smapE]
  |p::m,c,i=>by
    simp only[midx,mset]
    cases hb:(k==p.1)with
    |true=>simp[smapE]
    |false=>
      simp only[Bool.false_eq_true,if_false]
      have ih:=midx_set k v m (c+1) (i+1)
      cases hm:midx m k (i+1)with
      |none=>
        rw[hm]at ih
        simp only at ih ⊢
        refine⟨?_,by simp[ih.2]⟩
        simp only[smapE,List.cons_append,List.length_cons]
        rw[←ih.1,show c+(m.length+1)=c+1+m.length by omega]
      |some q=>
        obtain⟨j,u⟩:=q
        rw[hm]at ih
        simp only at ih ⊢
        refine⟨by omega,?_,by simp[ih.2.2]⟩
        simp only[smapE]
        rw[show j-i=(j-(i+1))+1 by omega,List.modify_succ_cons,ih.2.1]
variable {P:Program} {t kt et:TypeId} {ie:TypeInfo}
theorem lk_ok(ht:P.underlying t=some (.map kt et))(hk:P.underlying kt=some .string)(he:P.info? et=some ie)(hz:ie.zero=some (.int .i64 0))(m:List (ByteArray×Int))(k:ByteArray) :
  Ob.ok P (.lk t (smap m) (at' k) false (ai (mget m k))):=by
 intro ev i s hl
 unfold alookup
 simp only[ht,at',hk,he,smap]at hl ⊢
 simp only[hl,hz,findNow_smap,plainKey,cond_true,Bool.false_eq_true,if_false,midx_get]
theorem mu_ok(ht:P.underlying t=some (.map kt et))(hk:P.underlying kt=some .string)(m:List (ByteArray×Int))(k:ByteArray)(v:Int) :
  Ob.ok P (.mu t (smap m) (at' k) (ai v) (smap (mset m k v))):=by
 intro ev i s hl
 unfold amapUpdate
 simp only[ht,at',ai,hk,smap]at hl ⊢
 simp only[hl,findNow_smap,plainKey,cond_true]
 have h:=midx_set k v m 0 0
 cases hm:midx m k 0 with
 |none=>
  rw[hm]at h
  simp only[Nat.zero_add]at h ⊢
  rw[h.2,←h.1]
  simp
 |some q=>
  obtain⟨j,u⟩:=q
  rw[hm]at h
  simp only[Nat.sub_zero]at h ⊢
  have e:(⟨smapE m 0⟩:Array MapEntry).modify j (fun e=>{ e with key:=.string k,val:=.int .i64 v })=⟨smapE (mset m k v) 0⟩:=by
   apply Array.ext'
   rw[Array.toList_modify]
   exact h.2.1
  rw[h.2.2,e]
def gbyte(s:ByteArray)(i:Int):Option Int:=if 0≤i then(match s[i.toNat]? with|some b=>some (b.toNat:Int)|none=>none)else none
theorem ixStr_ok{k:IntKind}(ht:P.underlying t=some .string){s:ByteArray}{i x:Int}(h:gbyte s i=some x):aindex P t (at' s) (.val (.int k i))=some (.val (.int .u8 x)):=by
 unfold gbyte at h
 unfold aindex
 simp only[ht,at']
 split at h
 ·rename_i h0
  rw[if_pos h0]
  split at h
  ·rename_i b hb
   cases h
   rw[hb]
  ·cases h
 ·cases h
theorem aints_u8:∀l:List U8,aints (flat u8C l)=some l
 | []=>rfl
 |x::l=>by
  have:=aints_u8 l
  unfold flat at this ⊢
  rw[List.flatMap_cons]
  show (aints (l.flatMap u8C)).map (x :: ·)=_
  rw[this];rfl
theorem cvStr_ok{d e:TypeId}(hs:P.underlying t=some (.slice e))(hd:P.underlying d=some .string)(he:P.underlying e=some (.int .u8))(l:List U8){o:Own}:aconvert P t d (.sl (flat u8C l) l.length o)=some (at' (gstr l)):=by
 unfold aconvert
 simp only[hs,hd,he,aints_u8]
 rfl
end Go.Ab
namespace Go.Ab
open Go Go.RowKit
structure Sub (G G':Gh) (p:Nat->Prop):Prop where
 F:G'.F=G.F
 ρ:∀i b,p i->G.ρ i=some b->G'.ρ i=some b
 τ:∀k q,G.τ k=some q->G'.τ k=some q
 L:∀b o,G.L b o->G'.L b o
 N:∀i,p i->G.N i->G'.N i
mutual
theorem V.less{G G':Gh}{w:World}{p:Nat->Prop}(h:Sub G G' p):∀(a:AV) (u:Value),a.fine p->V G w a u->V G' w a u
 | .val v,u,_,hv=>by simpa only[V]using hv
 | .agg cs,u,hi,hv=>by
  simp only[V,AV.fine]at hi hv ⊢
  obtain⟨vs,rfl,hl⟩:=hv
  exact⟨vs,rfl,VL.less h cs vs hi hl⟩
 | .tup cs,u,hi,hv=>by
  simp only[V,AV.fine]at hi hv ⊢
  obtain⟨vs,rfl,hl⟩:=hv
  exact⟨vs,rfl,VL.less h cs vs hi hl⟩
 | .sl es n o,u,hi,hv=>by
  simp only[V,AV.fine]at hi hv ⊢
  obtain⟨cap,hc,hh⟩:=hv
  refine⟨cap,hc,?_⟩
  rcases hh with⟨rfl,h2,h3,h4,h5⟩|⟨b,off,hu,hcells,ho⟩
  ·exact .inl ⟨rfl,h2,h3,h4,h5.mono h.τ⟩
  ·exact .inr ⟨b,off,hu,VC.data h.L es b off hi hcells,ho.mono h.F h.τ⟩
 | .ip es,u,hi,hv=>by
  simp only[V,AV.fine]at hi hv ⊢
  obtain⟨b,off,hu,hcells⟩:=hv
  exact⟨b,off,hu,VC.data h.L es b off hi hcells⟩
 | .mp i off,u,hi,hv=>by
  simp only[V,AV.fine]at hi hv ⊢
  obtain⟨b,hb,hu⟩:=hv
  exact⟨b,h.ρ _ _ hi hb,hu⟩
 | .ms i off n c sz,u,hi,hv=>by
  simp only[V,AV.fine]at hi hv ⊢
  rcases hv with⟨b,cap,hb,hu⟩|⟨hn,hN,hu⟩
  ·exact .inl ⟨b,cap,h.ρ _ _ hi hb,hu⟩
  ·exact .inr ⟨hn,h.N _ hi hN,hu⟩
 | .obj i,u,hi,hv=>by
  simp only[V,AV.fine]at hi hv ⊢
  obtain⟨b,hb,hu⟩:=hv
  exact⟨b,h.ρ _ _ hi hb,hu⟩
 | .clo g fs cs,u,hi,hv=>by
  simp only[V,AV.fine]at hi hv ⊢
  obtain⟨l,r',hu,h1,h2⟩:=hv
  exact⟨l,r',hu,VL.less h fs l hi.1 h1,VL.less h cs r' hi.2 h2⟩
theorem VL.less{G G':Gh}{w:World}{p:Nat->Prop}(h:Sub G G' p):∀(as0:List AV) (us:List Value),AV.fineL p as0->VL G w as0 us->VL G' w as0 us
 | [],[],_,_=>by simp only[VL]
 |a::as0,u::us,hi,hv=>by
  simp only[VL,AV.fineL]at hi hv ⊢
  exact⟨V.less h a u hi.1 hv.1,VL.less h as0 us hi.2 hv.2⟩
 | [],_::_,_,hv=>by simp only[VL]at hv
 |_::_,[],_,hv=>by simp only[VL]at hv
end
mutual
def AV.fz(m:Nat)(cs:List AV):AV->AV
 | .val v=>.val v
 | .agg l=>.agg (AV.fzL m cs l)
 | .tup l=>.tup (AV.fzL m cs l)
 | .sl es n o=>.sl es n o
 | .ip es=>.ip es
 | .mp i off=>.mp i off
 | .ms i off n c sz=>bif Nat.beq i m then .sl (cs.drop off) n .no else .ms i off n c sz
 | .obj i=>.obj i
 | .clo g a b=>.clo g a b
def AV.fzL(m:Nat)(cs:List AV):List AV->List AV
 | []=>[]
 |a::l=>AV.fz m cs a::AV.fzL m cs l
end
mutual
def AV.fzOk(m:Nat):AV->Prop
 | .val _=>True
 | .agg l=>AV.fzOkL m l
 | .tup l=>AV.fzOkL m l
 | .sl es _ _=>AV.DataL es
 | .ip es=>AV.DataL es
 | .mp i _=>i<m
 | .ms i off _ _ _=>(i=m∧off=0)∨i<m
 | .obj i=>i<m
 | .clo _ a b=>AV.fineL (fun i=>i<m) a∧AV.fineL (fun i=>i<m) b
def AV.fzOkL(m:Nat):List AV->Prop
 | []=>True
 |a::l=>AV.fzOk m a∧AV.fzOkL m l
end
theorem DataL_drop:∀(l:List AV) (n:Nat),AV.DataL l->AV.DataL (l.drop n)
 |l,0,h=>by simpa using h
 | [],_+1,_=>trivial
 |_::l,n+1,h=>by simpa using DataL_drop l n h.2
mutual
theorem AV.fz_fine{m:Nat}{cs:List AV}(hc:AV.DataL cs):∀a:AV,a.fzOk m->(a.fz m cs).fine (fun i=>i<m)
 | .val _,_=>trivial
 | .agg l,h=>AV.fzL_fine hc l h
 | .tup l,h=>AV.fzL_fine hc l h
 | .sl _ _ _,h=>h
 | .ip _,h=>h
 | .mp _ _,h=>h
 | .ms i off n c sz,h=>by
  simp only[AV.fz]
  cases hb:Nat.beq i m with
  |true=>exact DataL_drop _ _ hc
  |false=>
   rcases h with⟨rfl,_⟩|h
   ·simp at hb
   ·exact h
 | .obj _,h=>h
 | .clo _ _ _,h=>h
theorem AV.fzL_fine{m:Nat}{cs:List AV}(hc:AV.DataL cs):∀l:List AV,AV.fzOkL m l->AV.fineL (fun i=>i<m) (AV.fzL m cs l)
 | [],_=>trivial
 |a::l,h=>⟨AV.fz_fine hc a h.1,AV.fzL_fine hc l h.2⟩
end
mutual
theorem V.fz{G G':Gh}{w:World}{m:Nat}{cs:List AV}(h:Sub G G' (fun i=>i<m))(hm:∀b,G.ρ m=some b->VC G' w cs b 0)(hc:G.N m->cs=[]):∀(a:AV) (u:Value),a.fzOk m->V G w a u->V G' w (a.fz m cs) u
 | .val v,u,_,hv=>by simpa only[AV.fz,V]using hv
 | .agg l,u,hi,hv=>by
  simp only[V,AV.fzOk,AV.fz]at hi hv ⊢
  obtain⟨vs,rfl,hl⟩:=hv
  exact⟨vs,rfl,VL.fz h hm hc l vs hi hl⟩
 | .tup l,u,hi,hv=>by
  simp only[V,AV.fzOk,AV.fz]at hi hv ⊢
  obtain⟨vs,rfl,hl⟩:=hv
  exact⟨vs,rfl,VL.fz h hm hc l vs hi hl⟩
 | .sl es n o,u,hi,hv=>V.less h (.sl es n o) u hi hv
 | .ip es,u,hi,hv=>V.less h (.ip es) u hi hv
 | .mp i off,u,hi,hv=>V.less h (.mp i off) u hi hv
 | .ms i off n c sz,u,hi,hv=>by
  simp only[AV.fz]
  cases hb:Nat.beq i m with
  |false=>
   rcases hi with⟨rfl,_⟩|hi
   ·simp at hb
   ·exact V.less h (.ms i off n c sz) u hi hv
  |true=>
   have:=Nat.eq_of_beq_eq_true hb
   subst this
   simp only[V,cond_true]at hv ⊢
   rcases hi with⟨_,e0⟩|hi
   ·subst e0
    rcases hv with⟨b,cap,hb',hn,o,rfl,hro⟩|⟨⟨e1,_⟩,hN,p,rfl⟩
    ·rcases hro with⟨eo,_⟩|⟨_,h0⟩
     ·subst eo
      exact⟨cap,Nat.le_trans hn.1 hn.2,.inr ⟨b,_,rfl,by simpa using hm b hb',trivial⟩⟩
     ·exact absurd h0 (Nat.lt_irrefl _)
    ·rw[hc hN]
     subst e1
     exact⟨0,Nat.le_refl 0,.inl ⟨rfl,(by first|rfl|trivial),(by first|rfl|trivial),rfl,trivial⟩⟩
   ·exact absurd hi (Nat.lt_irrefl _)
 | .obj i,u,hi,hv=>V.less h (.obj i) u hi hv
 | .clo g a b,u,hi,hv=>V.less h (.clo g a b) u hi hv
theorem VL.fz{G G':Gh}{w:World}{m:Nat}{cs:List AV}(h:Sub G G' (fun i=>i<m))(hm:∀b,G.ρ m=some b->VC G' w cs b 0)(hc:G.N m->cs=[]):∀(as0:List AV) (us:List Value),AV.fzOkL m as0->VL G w as0 us->VL G' w (AV.fzL m cs as0) us
 | [],[],_,_=>by simp only[AV.fzL,VL]
 |a::as0,u::us,hi,hv=>by
  simp only[VL,AV.fzOkL,AV.fzL]at hi hv ⊢
  exact⟨V.fz h hm hc a u hi.1 hv.1,VL.fz h hm hc as0 us hi.2 hv.2⟩
 | [],_::_,_,hv=>by simp only[VL]at hv
 |_::_,[],_,hv=>by simp only[VL]at hv
end
def cutH(m:Nat):List (Nat×Blk)->List (Nat×Blk)
 | []=>[]
 |p::l=>bif Nat.blt p.1 m then p::cutH m l else cutH m l
theorem look_cutH{m:Nat}:∀(l:List (Nat×Blk)) (i:Nat),look (cutH m l) i=if i<m then look l i else none
 | [],i=>by simp[cutH,look]
 |p::l,i=>by
  simp only[cutH]
  cases hb:Nat.blt p.1 m with
  |true=>
   have hb':p.1<m:=Nat.le_of_ble_eq_true hb
   simp only[cond_true,look,look_cutH l i]
   cases he:Nat.beq i p.1 with
   |true=>have:=Nat.eq_of_beq_eq_true he;simp only[cond_true];rw[if_pos (by omega)]
   |false=>simp only[cond_false]
  |false=>
   have hb':¬p.1<m:=by intro h;rw[Nat.blt,Nat.ble_eq_true_of_le h]at hb;cases hb
   simp only[cond_false,look,look_cutH l i]
   cases he:Nat.beq i p.1 with
   |true=>have:=Nat.eq_of_beq_eq_true he;rw[if_neg (by omega),if_neg (by omega)]
   |false=>simp only[cond_false]
def Blk.alive:Blk->Bool
 | .dead=>false
 |_=>true
theorem CTri.freeze{P:Program}{f:FuncId}{H0 H1:List Blk}{args cs:List AV}{res:AV}{nst:Nat}(h:CTri P f H0 args res (H1++[.row cs]) nst)(hle:H0.length≤H1.length)(hH1:∀X∈H1,X.fine (fun i=>i<H1.length))(hcs:AV.DataL cs)(hr:res.fzOk H1.length)(hnd:H1.all Blk.alive=true) :
  CTri P f H0 args (res.fz H1.length cs) H1 nst:=by
 intro G0 W cargs hB hR hv
 refine(h G0 W cargs hB hR hv).mono ?_
 rintro e W' ⟨u,G',s',rfl,hE,hR',hu,hb,ho⟩
 have hm:look s'.H H1.length=some (.row cs):=hb H1.length _ (by simp)
 have hm':(over (Emp 0) s').H H1.length=some (.row cs):=by rw[over_H];exact hm
 have real:∀b,G'.ρ H1.length=some b->¬G'.F b∧∃us:List Value,us.length=cs.length∧VL G' W' cs us∧∀i (hi:i<us.length),W'.cell? ⟨b,0+i,none⟩=some us[i]:=by
  intro b hρ
  obtain⟨hF,vs,T,hh,us,rest,hus,hvl⟩:=hR'.blk H1.length b _ hρ hm'
  refine⟨hF,us,VL.length _ _ hvl,hvl,fun i hi=>?_⟩
  have:vs[i]? = some us[i]:=by
   have h1:vs.toList[i]? = some us[i]:=by rw[hus,List.getElem?_append_left hi,List.getElem?_eq_getElem hi]
   simpa using h1
  rw[Nat.zero_add]
  simp[World.cell?,hh,this]
 have hNn:G'.N H1.length->cs=[]:=fun e=>Blk.void_row (hR'.Nvoid e hm')
 let G'':Gh:={ G' with ρ:=fun i=>if i<H1.length then G'.ρ i else none,L:=fun c o=>G'.L c o∨(G'.ρ H1.length=some c∧o<cs.length),N:=fun i=>i<H1.length∧G'.N i }
 have hS:Sub G' G'' (fun i=>i<H1.length):=⟨rfl,fun i b hi e=>by show (if i<H1.length then G'.ρ i else none)=_;rw[if_pos hi];exact e,fun _ _ e=>e,fun _ _ e=>.inl e,fun _ hi e=>⟨hi,e⟩⟩
 have hC:∀b,G'.ρ H1.length=some b->VC G'' W' cs b 0:=fun b hρ=>by
  obtain⟨_,us,hlen,hvl,hcell⟩:=real b hρ
  exact VC.of_cells cs us b 0 (VL.data hS.L cs us hcs hvl) (fun i hi=>.inr ⟨hρ,by omega⟩) hcell
 have hσ:∀i,(over (Emp 0) { s' with H:=cutH H1.length s'.H }).H i=if i<H1.length then look s'.H i else none:=fun i=>by rw[over_H];exact look_cutH _ _
 have hσ':∀i,(over (Emp 0) s').H i=look s'.H i:=fun i=>over_H _ _
 refine⟨u,G'',{ s' with H:=cutH H1.length s'.H },rfl,⟨fun i c hc=>?_,hE.τ,fun c o e=>.inl (hE.L c o e),hE.cell,hE.w0,hE.F,fun c o e=>?_,hE.room,fun i e=>?_⟩,⟨fun i=>?_,⟨H1.length,fun i hi=>?_⟩,fun i j c hi hj=>?_,fun i c X hi hX=>?_,fun c o hL=>?_,hR'.τns,fun k hk=>?_,hR'.ownd,hR'.below,hR'.base⟩,V.fz hS hC hNn _ _ hr hu,fun i X hX=>?_,ho⟩
 ·have hi:i<H0.length:=Nat.lt_of_not_le fun hge=>by rw[(hB.ρ i hge).1]at hc;cases hc
  show (if i<H1.length then G'.ρ i else none)=_
  rw[if_pos (by omega)];exact hE.ρ i c hc
 ·rcases e with e|⟨e,_⟩
  ·exact hE.newL c o e
  ·exact .inr (by rw[←hE.F];exact(real c e).1)
 ·have hi:i<H0.length:=Nat.lt_of_not_le fun hge=>(hB.ρ i hge).2 e
  exact⟨by omega,hE.N i e⟩
 ·rw[hσ]
  show DomA (if i<H1.length then G'.ρ i else none) (i<H1.length∧G'.N i) _
  have hd:=hR'.dom i
  rw[hσ']at hd
  split
  ·rename_i hi
   exact⟨fun q=>(hd.1 q).imp (fun r=>⟨hi,r⟩) id,fun q=>⟨(hd.2.1 q).1,fun r=>(hd.2.1 q).2 r.2⟩,fun r=>hd.2.2 r.2⟩
  ·rename_i hi
   exact⟨fun _=>.inr rfl,fun _=>⟨rfl,fun r=>hi r.1⟩,fun r=>absurd r.1 hi⟩
 ·rw[hσ,if_neg (by omega)]
 ·have hi':(if i<H1.length then G'.ρ i else none)=some c:=hi
  have hj':(if j<H1.length then G'.ρ j else none)=some c:=hj
  split at hi'
  ·split at hj'
   ·rename_i h1 h2
    rw[hσ,hσ,if_pos h1,if_pos h2,←hσ',←hσ']
    exact hR'.inj i j c hi' hj'
   ·cases hj'
  ·cases hi'
 ·have hi':(if i<H1.length then G'.ρ i else none)=some c:=hi
  split at hi'
  ·rename_i hlt
   rw[hσ,if_pos hlt]at hX
   obtain⟨q1,q2⟩:=hR'.blk i c X hi' (by rw[hσ'];exact hX)
   refine⟨q1,?_⟩
   have hget:(H1++[.row cs])[i]? = some H1[i]:=by rw[List.getElem?_append_left hlt,List.getElem?_eq_getElem hlt]
   have:=hb i _ hget
   rw[this]at hX;cases hX
   have hf:=hH1 _ (List.getElem_mem hlt)
   cases hY:H1[i]with
   |cells ds=>
    rw[hY]at q2 hf
    obtain⟨vs',T',q3,q4⟩:=q2
    exact⟨vs',T',q3,q4.imp fun us=>VL.less hS _ us hf⟩
   |obj o=>rw[hY]at q2;exact q2
   |row ds=>
    rw[hY]at q2 hf
    obtain⟨vs',T',q3,q4⟩:=q2
    exact⟨vs',T',q3,q4.imp fun us=>VL.data hS.L _ us hf⟩
   |dead=>rw[hY]at q2;exact q2
  ·cases hi'
 ·rcases hL with hL|⟨hρ,hlt⟩
  ·obtain⟨q1,q2⟩:=hR'.live c o hL
   refine⟨q1,fun i hi=>?_⟩
   have hi':(if i<H1.length then G'.ρ i else none)=some c:=hi
   split at hi'
   ·exact q2 i hi'
   ·cases hi'
  ·obtain⟨_,us,hlen,hvl,hcell⟩:=real c hρ
   refine⟨⟨us[o]'(by omega),?_⟩,fun i hi=>?_⟩
   ·have:=hcell o (by omega)
    rwa[Nat.zero_add]at this
   ·have hi':(if i<H1.length then G'.ρ i else none)=some c:=hi
    split at hi'
    ·rename_i hlt'
     have hi2:look s'.H i=some H1[i]:=hb i _ (by rw[List.getElem?_append_left hlt',List.getElem?_eq_getElem hlt'])
     rcases hR'.inj i H1.length c hi' hρ with this|this|this
     ·omega
     ·rw[hσ',hi2]at this
      have h3:=List.all_eq_true.1 hnd _ (List.getElem_mem hlt')
      rw[Option.some.inj this]at h3
      cases h3
     ·rw[hσ',hm]at this;cases this
    ·cases hi'
 ·obtain⟨c,f1,t,q1,q2|⟨q2,q3,q4,q5⟩⟩:=hR'.own k hk
  ·exact⟨c,f1,t,q1,.inl q2⟩
  ·refine⟨c,f1,t,q1,.inr ⟨q2,fun i hi=>?_,fun o h1 h2 hL=>?_,q5⟩⟩
   ·have hi':(if i<H1.length then G'.ρ i else none)=some c:=hi
    split at hi'
    ·exact q3 i hi'
    ·cases hi'
   ·rcases hL with hL|⟨hρ,_⟩
    ·exact q4 o h1 h2 hL
    ·exact q3 _ hρ
 ·have hlt:=(List.getElem?_eq_some_iff.1 hX).1
  show look (cutH H1.length s'.H) i=some X
  rw[look_cutH,if_pos hlt]
  exact hb i X (by rw[List.getElem?_append_left hlt];exact hX)
theorem CT.freeze{P:Program}{f:FuncId}{H0 H1:List Blk}{args cs:List AV}{res res':AV}{nst:Nat}(h:CT P f H0 args res (H1++[.row cs]) nst)(hle:H0.length≤H1.length)(hH1:∀X∈H1,X.fine (fun i=>i<H1.length))(hcs:AV.DataL cs)(hr:res.fzOk H1.length)(hnd:H1.all Blk.alive=true)(e:res.fz H1.length cs=res') :
  CT P f H0 args res' H1 nst:=by
 subst e
 exact⟨h.tri.freeze hle hH1 hcs hr hnd,h.args,h.H0,AV.fz_fine hcs _ hr,hH1⟩
theorem nil_stamp{G0 G':Gh}{W W':World}{s':LSt}{u:Value}(sz:Nat)(hB:Base (0:Nat) G0)(hE:Ext G0 W G' W')(hR':RelS G' (over (Emp 0) s') W')(hu:∃cap b o,(cap=0)∧(u = .slice (spOf u) 0 0∨u = .slice (some ⟨b,o,none⟩) 0 cap)) :
  ∃u' G'' s'',Ending.returned u = .returned u'∧Ext G0 W G'' W'∧RelS G'' (over (Emp 0) s'') W'∧V G'' W' (.sl [] 0 (.st 0 sz)) u'∧(∀i X,([]:List Blk)[i]? = some X->look s''.H i=some X)∧∀k,k<1->s''.own.any (Nat.beq k)=true:=by
 let G'':Gh:={ G' with ρ:=fun _=>none,τ:=fun k=>if k=0 then some (0,1,0)else none,N:=fun _=>False }
 refine⟨u,G'',{ s' with H:=[],own:=[0],ns:=1 },rfl,⟨fun i c hc=>?_,fun k r hk=>?_,hE.L,hE.cell,hE.w0,hE.F,hE.newL,fun i c m hc=>?_,fun i e=>absurd e (hB.ρ i (Nat.zero_le _)).2⟩,⟨fun i=>?_,⟨0,fun i _=>?_⟩,fun i j c hi=>?_,fun i c X hi=>?_,fun c o hL=>?_,fun k hk=>?_,fun k hk=>?_,fun k k' _ _ _ _ _ hk hk'=>?_,hR'.below,hR'.base⟩,?_,fun i X hX=>?_,fun k hk=>?_⟩
 ·rw[(hB.ρ i (Nat.zero_le _)).1]at hc;cases hc
 ·rw[hB.τ k]at hk;cases hk
 ·rw[(hB.ρ i (Nat.zero_le _)).1]at hc;cases hc
 ·rw[over_H];exact⟨fun _=>.inr rfl,fun _=>⟨rfl,id⟩,fun e=>e.elim⟩
 ·rw[over_H];rfl
 ·cases hi
 ·cases hi
 ·exact⟨(hR'.live c o hL).1,fun i hi=>by cases hi⟩
 ·have hk1:1≤k:=hk
  show (if k=0 then some (0,1,0)else none)=none
  rw[if_neg (by omega)]
 ·rw[over_own]at hk
  have e:k=0:=by simpa using hk
  subst e
  exact⟨0,1,0,rfl,.inl (by decide)⟩
 ·rw[over_own]at hk hk'
  have e:k=0:=by simpa using hk
  have e':k'=0:=by simpa using hk'
  intros;omega
 ·obtain⟨cap,b,o,rfl,hu|rfl⟩:=hu
  ·simp only[V]
   exact⟨0,Nat.le_refl 0,.inl ⟨(by trivial),(by trivial),(by trivial),hu,_,rfl⟩⟩
  ·simp only[V]
   exact⟨0,Nat.le_refl 0,.inl ⟨(by trivial),(by trivial),(by trivial),(by first|rfl|trivial),_,rfl⟩⟩
 ·cases hX
 ·have:k=0:=by omega
  subst this;rfl
theorem CTri.freezeZ{P:Program}{f:FuncId}{args cs:List AV}{n c sz:Nat}(h:CTri P f [] args (.ms 0 0 n c sz) [.row cs] 0)(hn0:n=0) :
  CTri P f [] args (.sl [] 0 (.st 0 sz)) [] 1:=by
 intro G0 W cargs hB hR hv
 refine(h G0 W cargs hB hR hv).mono ?_
 rintro e W' ⟨u,G',s',rfl,hE,hR',hu,hb,-⟩
 have hm:look s'.H 0=some (.row cs):=hb 0 _ (by simp)
 have hm':(over (Emp 0) s').H 0=some (.row cs):=by rw[over_H];exact hm
 simp only[V]at hu
 rcases hu with⟨b,cap,hρ,hn,o,rfl,hro⟩|⟨⟨e0,_⟩,hN,p,rfl⟩
 rotate_left
 ·have hcs0:=Blk.void_row (hR'.Nvoid hN hm')
  subst e0
  try subst hcs0
  exact nil_stamp sz hB hE hR' ⟨0,0,0,rfl,.inl rfl⟩
 obtain⟨hF,vs,T,hh,us,rest,hus,hvl⟩:=hR'.blk 0 b _ hρ hm'
 have hlen:=VL.length _ _ hvl
 rcases hro with⟨rfl,vs2,T2,hh2,hroom⟩|⟨_,h0⟩
 rotate_left
 ·exact absurd h0 (Nat.lt_irrefl _)
 rw[hh]at hh2;cases hh2
 let G'':Gh:={ G' with ρ:=fun _=>none,τ:=fun k=>if k=0 then some (b,0+0,0+cap*sz)else none,N:=fun _=>False }
 refine⟨_,G'',{ s' with H:=[],own:=[0],ns:=1 },rfl,⟨fun i c hc=>?_,fun k r hk=>?_,hE.L,hE.cell,hE.w0,hE.F,hE.newL,fun i c m hc=>?_,fun i e=>absurd e (hB.ρ i (Nat.zero_le _)).2⟩,⟨fun i=>?_,⟨0,fun i _=>?_⟩,fun i j c hi=>?_,fun i c X hi=>?_,fun c o hL=>?_,fun k hk=>?_,fun k hk=>?_,fun k k' _ _ _ _ _ hk hk'=>?_,hR'.below,hR'.base⟩,?_,fun i X hX=>?_,fun k hk=>?_⟩
 ·rw[(hB.ρ i (Nat.zero_le _)).1]at hc;cases hc
 ·rw[hB.τ k]at hk;cases hk
 ·rw[(hB.ρ i (Nat.zero_le _)).1]at hc;cases hc
 ·rw[over_H];exact⟨fun _=>.inr rfl,fun _=>⟨rfl,id⟩,fun e=>e.elim⟩
 ·rw[over_H];rfl
 ·cases hi
 ·cases hi
 ·exact⟨(hR'.live c o hL).1,fun i hi=>by cases hi⟩
 ·have hk1:1≤k:=hk
  show (if k=0 then some (b,0+0,0+cap*sz)else none)=none
  rw[if_neg (by omega)]
 ·rw[over_own]at hk
  have e:k=0:=by simpa using hk
  subst e
  exact⟨b,0+0,0+cap*sz,rfl,.inr ⟨hF,fun i hi=>(by cases hi),fun o h1 h2 hL=>(hR'.live b o hL).2 0 hρ,vs,T,hh,hroom⟩⟩
 ·rw[over_own]at hk hk'
  have e:k=0:=by simpa using hk
  have e':k'=0:=by simpa using hk'
  intros;omega
 ·simp only[V]
  subst hn0
  exact⟨cap,Nat.zero_le _,.inr ⟨b,0,rfl,by simp only[VC],⟨_,rfl⟩,.inr ⟨by simp,hF,rfl⟩⟩⟩
 ·cases hX
 ·have:k=0:=by omega
  subst this;rfl
theorem CT.freezeZ{P:Program}{f:FuncId}{args cs:List AV}{n c sz:Nat}(h:CT P f [] args (.ms 0 0 n c sz) [.row cs] 0)(hn0:n=0):CT P f [] args (.sl [] 0 (.st 0 sz)) [] 1:=
 ⟨h.tri.freezeZ hn0,h.args,h.H0,trivial,fun _ h=>nomatch h⟩
def gmk{α:Type}(B:Int)(d:α)(n:Int):Option (List α):=if 0≤n∧n*B≤140737488355328 then some (List.replicate n.toNat d)else none
def gchk(n:Nat)(i:Int):Option Nat:=if 0≤i∧i<n then some i.toNat else none
def gset{α:Type}(l:List α)(k:Nat)(x:α):Option (List α):=if k<l.length then some (l.set k x)else none
def gfz{α:Type}(n:Nat)(l:List α):Option (List α):=if l.length=n then some l else none
theorem gfz_spec{α:Type}{n:Nat}{l r:List α}(h:gfz n l=some r):r=l∧n=r.length:=by
 unfold gfz at h
 split at h
 ·rename_i e;cases h;exact⟨rfl,e.symm⟩
 ·cases h
theorem rep_cells{f:Nat->AV}{s:Nat}(hs:0<s):∀n:Nat,(List.range (n*s)).map (fun j=>f (j % s))=(List.replicate n ((List.range s).map f)).flatten
 |0=>by simp
 |n+1=>by
  rw[Nat.add_mul,Nat.one_mul,List.range_add,List.map_append,rep_cells hs n,List.replicate_succ',List.flatten_append]
  congr 1
  simp only[List.map_map,List.flatten_cons,List.flatten_nil,List.append_nil]
  apply List.map_congr_left
  intro j hj
  have:j<s:=List.mem_range.1 hj
  simp[Function.comp,Nat.add_comm (n*s) j,Nat.mod_eq_of_lt this]
theorem flat_rep{α:Type}{c:α->List AV}{d:α}:∀n:Nat,(List.replicate n (c d)).flatten=flat c (List.replicate n d)
 |0=>rfl
 |n+1=>by simp only[List.replicate_succ,List.flatten_cons,flat,List.flatMap_cons];rw[flat_rep n];rfl
theorem mk_ok{P:Program}{α:Type}{c:α->List AV}{sz:Nat}{t e:TypeId}{ie:TypeInfo}{z:Value}(ht:P.underlying t=some (.slice e))(hi:P.info? e=some ie)(hs:ie.size=sz)(hz:ie.zero=some z)(hzs:z.cells.size=sz)(h1:1≤sz){B:Nat}(hb:ie.bytes=B)(hB:1≤B){d:α}
  (hd:(List.range sz).map (fun j=>(ofV 8 (z.cells.getD j undef)).frz)=c d) {n:Int} {l:List α} (h:gmk (B:Int) d n=some l):Ob.ok P (.mk (amakems P t (ai n) (ai n)) (flat c l) l.length):=by
 unfold gmk at h
 split at h
 ·rename_i hc
  cases h
  show amakems P t (ai n) (ai n)=some (flat c (List.replicate n.toNat d),(List.replicate n.toNat d).length)
  unfold amakems
  simp only[ht,hi,hz]
  have hb':(B:Int)≥1:=by omega
  have hn:n≤n*B:=by
   have:=Int.mul_le_mul_of_nonneg_left hb' hc.1
   simpa using this
  rw[if_pos ⟨trivial,hc.1,by rw[hb];exact hc.2,by omega,by rw[hzs,hs],by rw[hs];exact h1⟩]
  simp only[List.length_replicate,Option.some.injEq,Prod.mk.injEq,and_true]
  rw[hs,hzs,rep_cells h1 (f:=fun j=>(ofV 8 (z.cells.getD j undef)).frz),hd,flat_rep]
 ·cases h
theorem chk_ok{P:Program}{t e:TypeId}{ie:TypeInfo}(ht:P.underlying t=some (.slice e))(hi:P.info? e=some ie){sz:Nat}(hs:ie.size=sz){b n k c z:Nat}{i:Int}(h:gchk n i=some k) :
  aindexAddr P t (.ms b 0 n c z) (ai i)=some (.mp b (k*sz)):=by
 unfold gchk at h
 split at h
 ·rename_i hc
  cases h
  unfold aindexAddr
  simp only[ht,hi]
  rw[if_pos hc,hs,Nat.zero_add]
 ·cases h
theorem ld_elem{α:Type}{c:α->List AV}{sz:Nat}(hc:Codec c sz){l:List α}{k:Nat}{x:α}(h:gidx l (k:Int)=some x):(flat c l).drop (k*sz)=c x++flat c (l.drop (k+1)):=by
 obtain⟨_,_,h2⟩:=gidx_spec h
 exact flat_at hc.len (by simpa using h2)
theorem flat_set{α:Type}{c:α->List AV}{sz:Nat}(hc:∀x,(c x).length=sz):∀(l:List α) (k:Nat) (x:α),k<l.length->splice (flat c l) (k*sz) (c x)=flat c (l.set k x)
 | [],k,x,h=>by simp at h
 |y::l,0,x,h=>by
  simp only[splice,Nat.zero_mul,List.take_zero,List.nil_append,Nat.zero_add,flat,List.flatMap_cons,List.set_cons_zero]
  rw[List.drop_left' (by rw[hc,hc])]
 |y::l,k+1,x,h=>by
  have ih:=flat_set hc l k x (by simpa using h)
  simp only[splice,flat]at ih
  simp only[splice,flat,List.flatMap_cons,List.set_cons_succ]
  rw[←ih]
  have e:(k+1)*sz=sz+k*sz:=by rw[Nat.add_mul,Nat.one_mul,Nat.add_comm]
  rw[e,List.take_append,List.take_of_length_le (by rw[hc];omega),hc,Nat.add_sub_cancel_left,show sz+k*sz+(c x).length=sz+(k*sz+(c x).length) by omega,←List.drop_drop,List.drop_left' (hc y)]
  simp only[List.append_assoc]
theorem wt_elem{P:Program}{α:Type}{c:α->List AV}{sz:Nat}(hc:Codec c sz){l l2:List α}{k:Nat}{x:α}(h:gset l k x=some l2):Ob.ok P (.wt (flat c l) (k*sz) (.agg (c x)) sz (flat c l2)):=by
 unfold gset at h
 split at h
 ·rename_i hk
  cases h
  refine⟨hc.one x,hc.len x,?_,flat_set hc.len l k x hk⟩
  rw[flat_len hc.len]
  have:=Nat.mul_le_mul_right sz (show k+1≤l.length from hk)
  rw[Nat.add_mul,Nat.one_mul]at this
  exact this
 ·cases h
theorem sliceTo3_ok{P:Program}{α:Type}{c:α->List AV}{sz:Nat}(hc:Codec c sz){t e:TypeId}{ie:TypeInfo}(ht:P.underlying t=some (.slice e))(hi:P.info? e=some ie)(hs:ie.size=sz){l r:List α}{b:Int}{k k':IntKind}
  {o:Own} (h:gsl l 0 b=some r):aslice P t (.sl (flat c l) l.length o) none (some (.val (.int k b))) (some (.val (.int k' b)))=some (.sl (flat c r) r.length .full):=by
 obtain⟨_,h1,h2,rfl⟩:=gsl_spec h
 subst hs
 have key:aslice P t (.sl (flat c l) l.length o) none (some (.val (.int k b))) (some (.val (.int k' b)))=some (.sl (flat c (l.take b.toNat)) (l.take b.toNat).length (o.cut 0 b.toNat (Nat.beq b.toNat l.length) (Nat.beq b.toNat b.toNat))):=by
  unfold aslice
  simp only[ht,hi,amx,abound,abound?]
  rw[if_pos ⟨h1,h2⟩]
  simp only[Option.map_some]
  have hbb:(0≤b∧b≤(b.toNat:Nat)):=⟨h1,by omega⟩
  rw[if_pos hbb]
  simp only[Option.isSome_some,Option.isNone_some,Bool.false_eq_true,and_false,if_false]
  rw[if_pos (by rw[flat_len hc.len];simp)]
  simp only[Nat.sub_zero,Nat.zero_mul,List.drop_zero,Bool.true_and]
  rw[flat_take hc.len]
  have hl:(l.take b.toNat).length=b.toNat:=by simp;omega
  rw[hl]
 rw[key]
 simp only[Own.cut,Nat.beq_refl,if_true,Int.sub_zero,Int.toNat_zero,List.drop_zero]
def gcut(n:Nat)(a b:Int):Option (Nat×Nat):=if 0≤a∧a≤b∧b≤n then some (a.toNat,(b-a).toNat)else none
theorem gcut_spec{n:Nat}{a b:Int}{r:Nat×Nat}(h:gcut n a b=some r):0≤a∧a≤b∧b≤n∧r.1=a.toNat∧r.2=b.toNat-a.toNat:=by
 unfold gcut at h
 split at h
 ·rename_i q
  cases h
  exact⟨q.1,q.2.1,q.2.2,rfl,by show (b-a).toNat=_;omega⟩
 ·cases h
theorem slMTo_ok{P:Program}{t e:TypeId}{ie:TypeInfo}(ht:P.underlying t=some (.slice e))(hi:P.info? e=some ie){sz:Nat}(hs:ie.size=sz)(h1:1≤sz){b off n c:Nat}{y:Int}{r:Nat×Nat}(h:gcut c 0 y=some r) :
  aslice P t (.ms b off n c sz) none (some (ai y)) none=some (.ms b off r.2 c sz):=by
 obtain⟨q1,q2,q3,q4,q5⟩:=gcut_spec h
 subst hs
 have h2:abound? c c (some (ai y))=some y.toNat:=by
  show (if 0≤y∧y≤(c:Int)then some y.toNat else none)=_
  rw[if_pos ⟨by omega,q3⟩]
 unfold aslice
 simp only[ht,hi,amx,show msb n c (some (ai y)) none=c from rfl,h2]
 rw[if_neg (by simp)]
 simp only[abound?]
 rw[if_pos ⟨trivial,h1⟩,q5]
 simp
theorem ldE{P:Program}{α:Type}{c:α->List AV}{sz:Nat}(hc:Codec c sz){l:List α}{k:Nat}{x:α}(h:gidx l (k:Int)=some x)(q:Bool×Nat){val:AV}(e:part1 q (c x++flat c (l.drop (k+1)))=some val) :
  Ob.ok P (.ld (part1 q ((flat c l).drop (k*sz))) val):=by
 show part1 q _=some val
 rw[ld_elem hc h,e]
theorem flat_setF{α:Type}{c:α->List AV}{sz:Nat}(hc:∀x,(c x).length=sz){l:List α}{k off:Nat}{x x':α}{vs:List AV}(h:l[k]? = some x)(hv:off+vs.length≤sz)(e:splice (c x) off vs=c x') :
  splice (flat c l) (k*sz+off) vs=flat c (l.set k x'):=by
 obtain⟨hk,hx⟩:=List.getElem?_eq_some_iff.1 h
 have h1:l=l.take k++x::l.drop (k+1):=by
  rw[←hx];simp
 have h2:l.set k x'=l.take k++x'::l.drop (k+1):=List.set_eq_take_append_cons_drop.trans (by rw[if_pos hk])
 have hlen:(flat c (l.take k)).length=k*sz:=by rw[flat_len hc,List.length_take,Nat.min_eq_left (Nat.le_of_lt hk)]
 have e1:flat c l=flat c (l.take k)++(c x++flat c (l.drop (k+1))):=by
  conv=>lhs;rw[h1]
  rw[←flat_app];simp[flat]
 have e2:flat c (l.set k x')=flat c (l.take k)++(c x'++flat c (l.drop (k+1))):=by
  rw[h2,←flat_app];simp[flat]
 rw[e1,e2,←e]
 clear e1 e2 h1 h2
 generalize flat c (l.drop (k+1))=R
 generalize flat c (l.take k)=A at hlen ⊢
 simp only[splice]
 rw[List.take_append,List.take_of_length_le (by rw[hlen];omega),hlen,Nat.add_sub_cancel_left,show k*sz+off+vs.length=k*sz+(off+vs.length) by omega,List.drop_append,List.drop_of_length_le (by rw[hlen];omega),hlen,Nat.add_sub_cancel_left]
 rw[List.take_append_of_le_length (by rw[hc];omega),List.drop_append_of_le_length (by rw[hc];omega)]
 simp
theorem wtF{P:Program}{α:Type}{c:α->List AV}{sz:Nat}(hc:Codec c sz){l l2:List α}{k:Nat}{x x':α}(hx:gidx l (k:Int)=some x)(h:gset l k x'=some l2)(off m:Nat)(v:AV)(hs:v.sound=true)(hm:(acells v).length=m)(ho:off+m≤sz)(e:splice (c x) off (acells v)=c x') :
  Ob.ok P (.wt (flat c l) (k*sz+off) v m (flat c l2)):=by
 unfold gset at h
 split at h
 ·rename_i hk
  cases h
  obtain⟨_,_,h2⟩:=gidx_spec hx
  refine⟨hs,hm,?_,flat_setF hc.len (by simpa using h2) (by omega) e⟩
  rw[flat_len hc.len]
  have:=Nat.mul_le_mul_right sz (show k+1≤l.length from hk)
  rw[Nat.add_mul,Nat.one_mul]at this
  omega
 ·cases h
theorem wtE{P:Program}{α:Type}{c:α->List AV}{sz:Nat}(hc:Codec c sz){l l2:List α}{k:Nat}{x:α}{cs:List AV}(he:c x=cs)(h:gset l k x=some l2):Ob.ok P (.wt (flat c l) (k*sz) (.agg cs) sz (flat c l2)):=he▸wt_elem hc h
theorem rapp_core{P:Program}{α:Type}{c:α->List AV}{sz:Nat}(hc:Codec c sz){t e:TypeId}{ie:TypeInfo}{z:Value}(ht:P.underlying t=some (.slice e))(hi:P.info? e=some ie)(hs:ie.size=sz)(hz:ie.zero=some z)(hzs:z.cells.size=sz)(h1:1≤sz){B:Nat}(hb:ie.bytes=B)(hB:1≤B)
  {l m r:List α} (h:gapp B l m=some r) (hm:m.length≠0) (z1:Option Nat) (hz1:∀q,z1=some q->q=sz) (src:Option (Nat×Nat×Nat)) (hsrc:∀q,src=some q->q.2.2=sz) :
  rapp P t t z1 (flat c l) l.length src (flat c m) m.length=some (flat c r,r.length):=by
 obtain⟨h2,rfl⟩:=gapp_spec h
 subst hs
 subst hb
 have h3:(l.length+m.length)*1≤(l.length+m.length)*ie.bytes:=Nat.mul_le_mul_left _ hB
 unfold rapp
 simp only[ht,hi,hz]
 rw[if_pos ⟨trivial,flat_len hc.len l,flat_len hc.len m,h1,hzs,h2,by omega,flat_one hc.one m,hm,hz1,hsrc⟩,flat_app,List.length_append]
theorem rappN_ok{P:Program}{α:Type}{c:α->List AV}{sz:Nat}(hc:Codec c sz){t e:TypeId}{ie:TypeInfo}{z:Value}(ht:P.underlying t=some (.slice e))(hi:P.info? e=some ie)(hs:ie.size=sz)(hz:ie.zero=some z)(hzs:z.cells.size=sz)(h1:1≤sz){B:Nat}(hb:ie.bytes=B)(hB:1≤B)
  {m r:List α} (h:gapp B ([]:List α) m=some r) (hm:m.length≠0):Ob.ok P (.mk (rapp P t t none [] 0 none (flat c m) m.length) (flat c r) r.length):=
 rapp_core hc ht hi hs hz hzs h1 hb hB h hm none (fun _ h=>nomatch h) none (fun _ h=>nomatch h)
theorem same_ok{P:Program}{t e:TypeId}{ie:TypeInfo}(ht:P.underlying t=some (.slice e))(hi:P.info? e=some ie){n:Nat}(h:n=0):Ob.ok P (.same t t n):=⟨rfl,h,e,ie,ht,hi⟩
abbrev slv {α:Type} (c:α->List AV) (l:List α) (o:Own):AV:=.sl (flat c l) l.length o
abbrev nos (n:Nat):List Orc:=List.replicate n .no
structure OL (P:Program) (os:List Orc) (ob:List Ob):Prop where
 ok:ObsOk P ob
theorem ObsOk.rev{P:Program}:∀(a b:List Ob),ObsOk P a->ObsOk P b->ObsOk P (a.reverseAux b)
 | [],_,_,k=>k
 |x::a,b,h,k=>ObsOk.rev a (x::b) h.2 ⟨h.1,k⟩
section
variable {P:Program} {os:List Orc} {ob:List Ob}
theorem OL.nil:OL P [] []:=⟨trivial⟩
theorem oB{b b':Bool}(n:Nat)(h:b=b')(k:OL P os ob):OL P (.bit b'::(nos n++os)) (.bit b b'::ob):=⟨⟨h,k.ok⟩⟩
theorem oA{x:Option AV}{a:AV}(n:Nat)(h:x=some a)(k:OL P os ob):OL P (.av a::(nos n++os)) (.av x a::ob):=⟨⟨h,k.ok⟩⟩
theorem oC{f:FuncId}{H0:List Blk}{args:List AV}{res:AV}{H1:List Blk}{nst:Nat}(n:Nat)(ι:List Nat)(h:CT P f H0 args res H1 nst)(k:OL P os ob):OL P (.call ι H1 nst res none::(nos n++os)) (.call f H0 args res H1 nst::ob):=⟨⟨h,k.ok⟩⟩
theorem oK{b b':Bool}{f:FuncId}{H0:List Blk}{args:List AV}{res:AV}{H1:List Blk}{nst:Nat}(n:Nat)(ι:List Nat)(hb:b=b')(h:CT P f H0 args res H1 nst)(k:OL P os ob):OL P (.call ι H1 nst res (some b')::(nos n++os)) (.call f H0 args res H1 nst :: .bit b b'::ob):=⟨⟨h,hb,k.ok⟩⟩
theorem oP{t t2:TypeId}{es es2 es':List AV}{n1 n2 n' sz:Nat}{e:Bool}(n:Nat)(h:Ob.ok P (.app t t2 es es2 es' n1 n2 n' sz e))(k:OL P os ob):OL P (.app es' n' sz e::(nos n++os)) (.app t t2 es es2 es' n1 n2 n' sz e::ob):=⟨⟨h,k.ok⟩⟩
theorem oS{cs es:List AV}{l m:Nat}(n:Nat)(h:Ob.ok P (.cells cs es l m))(k:OL P os ob):OL P (.sl es m::(nos n++os)) (.cells cs es l m::ob):=⟨⟨h,k.ok⟩⟩
theorem oL{t:TypeId}{X:Blk}{key:AV}{o:Bool}{a:AV}(n:Nat)(h:Ob.ok P (.lk t X key o a))(k:OL P os ob):OL P (.lk a::(nos n++os)) (.lk t X key o a::ob):=⟨⟨h,k.ok⟩⟩
theorem oU{t:TypeId}{X Y:Blk}{key v:AV}(n:Nat)(h:Ob.ok P (.mu t X key v Y))(k:OL P os ob):OL P (.mu Y::(nos n++os)) (.mu t X key v Y::ob):=⟨⟨h,k.ok⟩⟩
theorem oM{x:Option (List AV×Nat)}{cs:List AV}{m:Nat}(n:Nat)(h:Ob.ok P (.mk x cs m))(k:OL P os ob):OL P (.mk cs m::(nos n++os)) (.mk x cs m::ob):=⟨⟨h,k.ok⟩⟩
theorem oG{x:Option AV}{a:AV}(n:Nat)(h:Ob.ok P (.ld x a))(k:OL P os ob):OL P (.ld a::(nos n++os)) (.ld x a::ob):=⟨⟨h,k.ok⟩⟩
theorem oW{cs:List AV}{off:Nat}{v:AV}{sz:Nat}{cs':List AV}(n:Nat)(h:Ob.ok P (.wt cs off v sz cs'))(k:OL P os ob):OL P (.wt cs'::(nos n++os)) (.wt cs off v sz cs'::ob):=⟨⟨h,k.ok⟩⟩
theorem oQ{t t2:TypeId}{m:Nat}(n:Nat)(h:Ob.ok P (.same t t2 m))(k:OL P os ob):OL P (.same::(nos n++os)) (.same t t2 m::ob):=⟨⟨h,k.ok⟩⟩
theorem oD{es:List AV}(h:AV.DataL es)(k:OL P os ob):OL P os (.data es::ob):=⟨⟨h,k.ok⟩⟩
end
theorem spl{α:Type}{b:Bool}{x y:Option α}{r:α}(h:(if b=true then x else y)=some r):(b=true∧x=some r)∨(b=false∧y=some r):=by
 cases b
 ·exact .inr ⟨rfl,by simpa using h⟩
 ·exact .inl ⟨rfl,by simpa using h⟩
theorem spT{α:Type}{b:Bool}{x:Option α}{r:α}(h:(if b=true then x else none)=some r):b=true∧x=some r:=by
 rcases spl h with h|⟨_,h⟩
 ·exact h
 ·cases h
theorem splF{α:Type}{b:Bool}{x:Option α}{r:α}(h:(if b=true then none else x)=some r):b=false∧x=some r:=by
 rcases spl h with⟨_,h⟩|h
 ·cases h
 ·exact h
theorem nn{α:Type}{r:α}{p:Prop}(h:(none:Option α)=some r):p:=nomatch h
theorem sj{α:Type}{x y:α}(h:some x=some y):x=y:=Option.some.inj h
def sp(j:Nat->Value):Nat->Nat->List (Nat×AV)->List AV
 |0,_,_=>[]
 |n+1,i,l=>match l with
  | []=>.val (j i)::sp j n (i+1) []
  | (m,a)::l'=>bif Nat.beq m i then a::sp j n (i+1) l' else .val (j i)::sp j n (i+1) l
section
variable {P:Program} {pr:FuncId->List AV->LSt->Option LA} (hp:CallsOk P pr) (hm:P.follows .mixedOrders=true) {na:Nb} {fn:Func} {f:FuncId}
include hp hm
theorem OL.toHead{H0 H1:List Blk}{args:List AV}{res:AV}{nst:Nat}(q:P.funcs[f]? = some fn∧fn.body.isNone=false)(m:Nat)(rs:List (Option Nat×Nat×Nat))(keep ks live:List Nat){os:List Orc}{ob:List Ob}(k:OL P os ob){c:Code}{fs':List Fr}{E:(Nat->Value)->List AV}{S:LSt}
  (hk:∀j,Dl P H0.length c (E j) S (frameQ P H0.length (FinQ P H0.length fn res H1 nst) fs'))
  (h:∀j,khead P pr H0.length 3000 (.run (bod fn)) [] (args++List.replicate (fn.ntmps-args.length) (.val undef)) (st0 H0) ((nos m++os).reverseAux []) rs keep ks live j=some (c,fs',E j,S,ob.reverseAux [])):CTri P f H0 args res H1 nst:=
 CTri.toHead hp hm q.1 q.2 3000 _ rs keep ks live h (ObsOk.rev _ _ k.ok trivial) hk
theorem OL.toFin{H0 H1:List Blk}{args:List AV}{res:AV}{nst:Nat}(q:P.funcs[f]? = some fn∧fn.body.isNone=false)(m:Nat)(rs:List (Option Nat×Nat×Nat))(keep ks:List Nat)(own:Bool){os:List Orc}{ob:List Ob}(k:OL P os ob)
  (h:kfin P pr H0.length fn 3000 (.run (bod fn)) [] (args++List.replicate (fn.ntmps-args.length) (.val undef)) (st0 H0) ((nos m++os).reverseAux []) rs keep ks own=some (res,H1,ob.reverseAux [])) (hn:nst≤ks.length):CTri P f H0 args res H1 nst:=
 CTri.toFin hp hm q.1 q.2 3000 _ rs keep ks own h (ObsOk.rev _ _ k.ok trivial) hn
theorem OL.lHead{Q:AX->List AV->LSt->Prop}{c c':Code}{fs fs':List Fr}{env:List AV}{s S:LSt}(m:Nat)(rs:List (Option Nat×Nat×Nat))(keep ks live:List Nat){os:List Orc}{ob:List Ob}(k:OL P os ob){E:(Nat->Value)->List AV}
  (hk:∀j,Dl P na c' (E j) S (frameQ P na Q fs')) (h:∀j,khead P pr na.n 3000 (.run c) (.loop c::fs) env s ((nos m++os).reverseAux []) rs keep ks live j=some (c',fs',E j,S,ob.reverseAux [])):Dl P na c env s (frameQ P na Q fs):=
 Dl.toHead hp hm 3000 _ rs keep ks live h (ObsOk.rev _ _ k.ok trivial) hk
theorem OL.lFin{c:Code}{fs:List Fr}{env:List AV}{s:LSt}{res:AV}{H1:List Blk}{nst:Nat}(m:Nat)(rs:List (Option Nat×Nat×Nat))(keep ks:List Nat)(own:Bool){os:List Orc}{ob:List Ob}(k:OL P os ob)
  (h:kfin P pr na.n fn 3000 (.run c) (.loop c::fs) env s ((nos m++os).reverseAux []) rs keep ks own=some (res,H1,ob.reverseAux [])) (hn:nst≤ks.length):Dl P na c env s (frameQ P na (FinQ P na fn res H1 nst) fs):=
 Dl.toFin hp hm 3000 _ rs keep ks own h (ObsOk.rev _ _ k.ok trivial) hn
end
def gbs(s:ByteArray):List U8:=s.data.toList.map fun b=>(b.toNat:Int)
theorem gbs_len(s:ByteArray):(gbs s).length=s.size:=by unfold gbs;rw[List.length_map,Array.length_toList];rfl
theorem byteA_flat(s:ByteArray):byteA s=flat u8C (gbs s):=by
 unfold byteA gbs
 generalize s.data.toList=l
 induction l with
 |nil=>rfl
 |cons b l ih=>
  unfold flat at ih ⊢
  rw[List.map_cons,List.map_cons,List.flatMap_cons,ih];rfl
section
variable {P:Program} {t t2 e:TypeId} {ie:TypeInfo} {z:Value}
theorem aps_core(ht:P.underlying t=some (.slice e))(hu:P.underlying t2=some .string)(hi:P.info? e=some ie)(hs:ie.size=1)(hz:ie.zero=some z)(hzs:z.cells.size=1)(hb:ie.bytes=1)
  {l r:List U8} {bs:ByteArray} (h:gapp 1 l (gbs bs)=some r) {o:Own} {s:LSt} {ev:Operand->AV} :
  aappendS P t t2 ev (.sl (flat u8C l) l.length o) bs s=bif Nat.beq bs.size 0 then some { ev:=ev,v:=.sl (flat u8C l) l.length o }
     else
      match o with
      | .full=>some { ev:=ev,ns:=s.ns,new:=1,v:=.sl (flat u8C r) r.length (.st s.ns 1) }
      | .nl=>some { ev:=ev,ns:=s.ns,new:=1,v:=.sl (flat u8C r) r.length (.st s.ns 1) }
      | .st k sz'=>bif s.own.any (Nat.beq k)&&Nat.beq sz' 1 then some { ev:=ev,use:=[k],ns:=s.ns,new:=1,v:=.sl (flat u8C r) r.length (.st s.ns 1) }else none
      |_=>none:=by
 obtain⟨h2,rfl⟩:=gapp_spec h
 rw[gbs_len]at h2
 unfold aappendS
 simp only[ht,hu,hi,hz,hs,hb]
 have hcond:(Nat.beq (flat u8C l).length (l.length*1)&&Nat.beq 1 1&&Nat.beq z.cells.size 1&&Nat.ble ((l.length+bs.size)*1) 140737488355328&&Nat.ble (l.length+bs.size) 4611686018427387904)=true:=by
  simp only[Bool.and_eq_true]
  exact⟨⟨⟨⟨by rw[flat_len codecU.len];simp,rfl⟩,by rw[hzs];rfl⟩,by simpa using h2⟩,by simp;omega⟩
 rw[hcond]
 simp only[cond_true,flat_app,List.length_append,gbs_len,byteA_flat]
 cases o<;>rfl
theorem aps_some(ht:P.underlying t=some (.slice e))(hu:P.underlying t2=some .string)(hi:P.info? e=some ie)(hs:ie.size=1)(hz:ie.zero=some z)(hzs:z.cells.size=1)(hb:ie.bytes=1)
  {l r:List U8} {bs:ByteArray} (h:gapp 1 l (gbs bs)=some r) (hm:bs.size≠0):Ob.ok P (.aps t t2 (flat u8C l) bs (flat u8C r) l.length r.length 1 false):=by
 intro ev s o
 rw[aps_core ht hu hi hs hz hzs hb h]
 cases hn:Nat.beq bs.size 0 with
 |true=>exact absurd (Nat.eq_of_beq_eq_true hn) hm
 |false=>cases o<;>rfl
theorem aps_none(ht:P.underlying t=some (.slice e))(hu:P.underlying t2=some .string)(hi:P.info? e=some ie)(hs:ie.size=1)(hz:ie.zero=some z)(hzs:z.cells.size=1)(hb:ie.bytes=1)
  {l r:List U8} {bs:ByteArray} (h:gapp 1 l (gbs bs)=some r) (hm:bs.size=0):Ob.ok P (.aps t t2 (flat u8C l) bs (flat u8C r) l.length r.length 1 true):=by
 intro ev s o
 rw[aps_core ht hu hi hs hz hzs hb h]
 obtain⟨_,rfl⟩:=gapp_spec h
 have:gbs bs=[]:=List.length_eq_zero_iff.1 (by rw[gbs_len,hm])
 rw[hm,this,List.append_nil];rfl
end
section
variable {P:Program} {os:List Orc} {ob:List Ob}
theorem oMz{x:Option (List AV×Nat)}{cs:List AV}{m:Nat}(n:Nat)(h:Ob.ok P (.mk x cs m))(k:OL P os ob):OL P (.mz cs m::(nos n++os)) (.mk x cs m::ob):=⟨⟨h,k.ok⟩⟩
theorem oCx{f:FuncId}{H0:List Blk}{args:List AV}{res:AV}{H1:List Blk}{nst:Nat}(n:Nat)(ι:List Nat)(h:CT P f H0 args res H1 nst)(k:OL P os ob):OL P (.callx ι H1 nst res none::(nos n++os)) (.call f H0 args res H1 nst::ob):=⟨⟨h,k.ok⟩⟩
theorem oCl(n:Nat)(k:OL P os ob):OL P (.cl::(nos n++os)) ob:=⟨k.ok⟩
theorem zr_ok{t t2:TypeId}{k:IntKind}(h2:P.underlying t2=some (.int k)){n:Int}(hp:n>0){cs:List AV}{m:Nat}(h:Ob.ok P (.mk (amakems P t (ai n) (ai n)) cs m)):Ob.ok P (.mk (azero P t t2 (ai n)) cs m):=by
 show azero P t t2 (ai n)=some (cs,m)
 unfold azero
 rw[h2]
 simp only
 rw[if_pos (by omega)]
 exact h
theorem oPs{t t2:TypeId}{es es':List AV}{bs:ByteArray}{n1 n' sz:Nat}{e:Bool}(n:Nat)(h:Ob.ok P (.aps t t2 es bs es' n1 n' sz e))(k:OL P os ob):OL P (.app es' n' sz e::(nos n++os)) (.aps t t2 es bs es' n1 n' sz e::ob):=⟨⟨h,k.ok⟩⟩
end
abbrev EntZ:=Ent
def entZ(e:Ent):List AV:=
  [ai e.kind,at' e.name,ai e.type.k,ai e.type.n,.sl (flat tmCells e.type.sub) e.type.sub.length .no,ai e.body.k,ai e.body.n,.sl (flat tmCells e.body.sub) e.body.sub.length .no,
   ai e.fam,ai e.place,ai e.pars,ai e.inds,ai e.level,.sl (flat intC e.cons) e.cons.length .z,.sl (flat intC e.fields) e.fields.length .z]
theorem codecEZ:Codec entZ 15:=⟨fun _=>rfl,fun x=>⟨trivial,trivial,trivial,trivial,⟨trivial,dT _⟩,trivial,trivial,⟨trivial,dT _⟩,trivial,trivial,trivial,trivial,trivial,⟨trivial,dI _⟩,⟨trivial,dI _⟩,trivial⟩,fun _=>rfl⟩
theorem dEZ(l:List Ent):AV.DataL (flat entZ l):=flat_data codecEZ.data l
theorem CT.wk{P:Program}{f:FuncId}{H0:List Blk}{args:List AV}{res res':AV}{H1:List Blk}{nst:Nat}(h:CT P f H0 args res H1 nst)(k:Wk res res')(hf:res'.fine (fun i=>i<H1.length)):CT P f H0 args res' H1 nst:=by
 refine⟨fun G0 W cargs hB hR hv=>(h.tri G0 W cargs hB hR hv).mono ?_,h.args,h.H0,hf,h.H1⟩
 rintro e W' ⟨u,G',s',h1,h2,h3,h4,h5⟩
 exact⟨u,G',s',h1,h2,h3,k _ _ _ h4,h5⟩
theorem V.znil{G:Gh}{w:World}{u:Value}(h:V G w (.sl [] 0 .z) u):V G w (.sl [] 0 .full) u:=by
 simp only[V,OwnOk]at h ⊢
 obtain⟨cap,hc,⟨h1,h2,h3,h4,h5⟩|⟨b,off,h1,h2,h3⟩⟩:=h
 ·exact⟨cap,hc,.inl ⟨h1,h2,h3,h4,trivial⟩⟩
 ·exact⟨cap,hc,.inr ⟨b,off,h1,h2,h3 (by trivial)⟩⟩
theorem CT.zfull{P:Program}{f:FuncId}{args:List AV}(h:CT P f [] args (.sl [] 0 .full) [] 0):CT P f [] args (.sl [] 0 .z) [] 0:=
 h.wk (by
  intro G w u h
  simp only[V,OwnOk]at h ⊢
  obtain⟨cap,hc,⟨h1,h2,h3,h4,h5⟩|⟨b,off,h1,h2,h3⟩⟩:=h
  ·exact⟨cap,hc,.inl ⟨h1,h2,h3,h4,trivial⟩⟩
  ·exact⟨cap,hc,.inr ⟨b,off,h1,h2,fun _=>h3⟩⟩) trivial
theorem CT.zno{P:Program}{f:FuncId}{args es:List AV}{n:Nat}(hn:n≠0)(hd:AV.DataL es)(h:CT P f [] args (.sl es n .no) [] 0):CT P f [] args (.sl es n .z) [] 0:=
 h.wk (by
  intro G w u h
  simp only[V,OwnOk]at h ⊢
  obtain⟨cap,hc,⟨h1,h2,h3,h4,h5⟩|⟨b,off,h1,h2,h3⟩⟩:=h
  ·exact(hn h2).elim
  ·exact⟨cap,hc,.inr ⟨b,off,h1,h2,fun e=>(hn e).elim⟩⟩) hd
theorem V.unown{G:Gh}{w:World}{es:List AV}{n:Nat}{o:Own}{u:Value}(h:V G w (.sl es n o) u):V G w (.sl es n .no) u:=V.frz _ _ h
theorem VC.entZ{G:Gh}{w:World}:∀(l:List Ent) (b off:Nat),VC G w (flat Ab.entZ l) b off->VC G w (flat entL l) b off
 | [],_,_,_=>by simp[flat,VC]
 |e::l,b,off,h=>by
  have h':VC G w (Ab.entZ e++flat Ab.entZ l) b off:=h
  show VC G w (entL e++flat entL l) b off
  simp only[Ab.entZ,entL,List.cons_append,List.nil_append,VC]at h' ⊢
  obtain⟨l0,c0,l1,c1,l2,c2,l3,c3,l4,c4,l5,c5,l6,c6,l7,c7,l8,c8,l9,c9,l10,c10,l11,c11,l12,c12,l13,⟨v13,e13,h13⟩,l14,⟨v14,e14,h14⟩,hr⟩:=h'
  exact⟨l0,c0,l1,c1,l2,c2,l3,c3,l4,c4,l5,c5,l6,c6,l7,c7,l8,c8,l9,c9,l10,c10,l11,c11,l12,c12,l13,⟨v13,e13,V.unown h13⟩,l14,⟨v14,e14,V.unown h14⟩,VC.entZ l _ _ hr⟩
theorem wkr(a:AV):Wk a a:=fun _ _ _ h=>h
theorem wkE(l:List Ent)(o:Own):Wk (.sl (flat entZ l) l.length o) (.sl (flat entL l) l.length .no):=by
 intro G w u h
 simp only[V]at h ⊢
 obtain⟨cap,hc,hh⟩:=h
 refine⟨cap,hc,?_⟩
 rcases hh with⟨h1,h2,h3,h4,h5⟩|⟨b,off,hu,hcells,ho⟩
 ·have:l=[]:=List.length_eq_zero_iff.1 h2
  subst this
  exact .inl ⟨rfl,rfl,h3,h4,trivial⟩
 ·exact .inr ⟨b,off,hu,VC.entZ l b off hcells,trivial⟩
theorem wkC{x:Ent}(h:x.cons.isEmpty=true):Wk (.agg (entZ x)) (.agg [ai x.kind,at' x.name,ai x.type.k,ai x.type.n,.sl (flat tmCells x.type.sub) x.type.sub.length .no,ai x.body.k,ai x.body.n,.sl (flat tmCells x.body.sub) x.body.sub.length .no,
   ai x.fam,ai x.place,ai x.pars,ai x.inds,ai x.level,.sl (flat intC ([]:List Int)) ([]:List Int).length .full,.sl (flat intC x.fields) x.fields.length .no]):=by
  intro G w u hv
  have hc:x.cons=[]:=List.isEmpty_iff.1 h
  simp only[V,Ab.entZ,hc]at hv ⊢
  obtain⟨vs,rfl,hl⟩:=hv
  refine⟨vs,rfl,?_⟩
  match vs,hl with
  | [v0,v1,v2,v3,v4,v5,v6,v7,v8,v9,v10,v11,v12,v13,v14],hl=>
    simp only[VL]at hl ⊢
    obtain⟨h0,h1,h2,h3,h4,h5,h6,h7,h8,h9,h10,h11,h12,h13,h14,_⟩:=hl
    exact⟨h0,h1,h2,h3,h4,h5,h6,h7,h8,h9,h10,h11,h12,V.znil h13,V.unown h14,trivial⟩
section
variable {P:Program} {os:List Orc} {ob:List Ob}
theorem oWk{a0 a:AV}(n:Nat)(h:Wk a0 a)(k:OL P os ob):OL P (.wk a::(nos n++os)) (.wk a0 a::ob):=⟨⟨h,k.ok⟩⟩
end
end Go.Ab
set_option linter.unusedSimpArgs false
namespace Go.Ab
open Go Go.RowKit
def slC{α:Type}(c:α->List AV)(l:List α):List AV:=[.sl (flat c l) l.length .no]
theorem codSl{α:Type}{c:α->List AV}{n:Nat}(h:Codec c n):Codec (slC c) 1:=⟨fun _=>rfl,fun l=>⟨⟨trivial,flat_data h.data l⟩,trivial⟩,fun _=>rfl⟩
theorem dSl{α:Type}{c:α->List AV}{n:Nat}(h:Codec c n)(l:List (List α)):AV.DataL (flat (slC c) l):=flat_data (codSl h).data l
theorem obLitR{P:Program}{α:Type}{C L:α->List AV}(he:∀t,C t=L t)(l:List α):Ob.ok P (.cells (flat L l) (flat C l) l.length l.length):=⟨by rw[show L=C from funext fun t=>(he t).symm],rfl⟩
theorem obMkR{P:Program}{α:Type}(C:α->List AV)(l:List α):Ob.ok P (.mk (some (flat C l,l.length)) (flat C l) l.length):=rfl
inductive TreeNode where
 |mk (kind_:Int) (at_:Int) (name_:ByteArray) (n_:Int) (sub_:List TreeNode)
def TreeNode.kind_:TreeNode->Int | .mk x _ _ _ _=>x
def TreeNode.at_:TreeNode->Int | .mk _ x _ _ _=>x
def TreeNode.name_:TreeNode->ByteArray | .mk _ _ x _ _=>x
def TreeNode.n_:TreeNode->Int | .mk _ _ _ x _=>x
def TreeNode.sub_:TreeNode->List TreeNode | .mk _ _ _ _ x=>x
instance:Inhabited TreeNode:=⟨.mk default default ⟨#[]⟩ default default⟩
mutual
def treeNodeC:TreeNode->List AV
 | .mk kind_ at_ name_ n_ sub_=>[ai kind_,ai at_,at' name_,ai n_,.sl (treeNodesC sub_) sub_.length .no]
def treeNodesC:List TreeNode->List AV
 | []=>[]
 |t::l=>treeNodeC t++treeNodesC l
end
theorem treeNodes_flat:∀l:List TreeNode,treeNodesC l=flat treeNodeC l
 | []=>rfl
 |t::l=>by simp only[treeNodesC,treeNodes_flat l,flat,List.flatMap_cons]
def treeNodeL(x:TreeNode):List AV:=[ai x.kind_,ai x.at_,at' x.name_,ai x.n_,slv treeNodeC x.sub_ .no]
theorem treeNode_eq(x:TreeNode):treeNodeC x=treeNodeL x:=by
 cases x;simp only[treeNodeC,treeNodeL,TreeNode.kind_,TreeNode.at_,TreeNode.name_,TreeNode.n_,TreeNode.sub_,treeNodes_flat,List.cons_append,List.nil_append]
def treeNodeA(x:TreeNode):AV:=.agg (treeNodeL x)
mutual
theorem treeNode_data:∀t:TreeNode,AV.DataL (treeNodeC t)
 | .mk kind_ at_ name_ n_ sub_=>by rw[treeNodeC];exact⟨trivial,trivial,trivial,trivial,⟨trivial,treeNodes_data sub_⟩,trivial⟩
theorem treeNodes_data:∀l:List TreeNode,AV.DataL (treeNodesC l)
 | []=>trivial
 |t::l=>by rw[treeNodesC];exact DataL_append (treeNode_data t) (treeNodes_data l)
end
theorem codecTreeNode:Codec treeNodeC 5:=⟨fun x=>by rw[treeNode_eq];rfl,treeNode_data,fun x=>by rw[treeNode_eq];rfl⟩
theorem dTreeNode(l:List TreeNode):AV.DataL (flat treeNodeC l):=flat_data codecTreeNode.data l
structure TreeBind where
 name_:ByteArray
 at_:Int
 type_:TreeNode
instance:Inhabited TreeBind:=⟨⟨⟨#[]⟩,default,default⟩⟩
def treeBindL(x:TreeBind):List AV:=[at' x.name_,ai x.at_,ai x.type_.kind_,ai x.type_.at_,at' x.type_.name_,ai x.type_.n_,slv treeNodeC x.type_.sub_ .no]
def treeBindA(x:TreeBind):AV:=.agg (treeBindL x)
theorem codecTreeBind:Codec treeBindL 7:=⟨fun _=>rfl,fun _=>⟨trivial,trivial,trivial,trivial,trivial,trivial,⟨trivial,dTreeNode _⟩,trivial⟩,fun _=>rfl⟩
theorem dTreeBind(l:List TreeBind):AV.DataL (flat treeBindL l):=flat_data codecTreeBind.data l
structure TreeRow where
 at_:Int
 pats_:List TreeNode
 has_:Bool
 body_:TreeNode
instance:Inhabited TreeRow:=⟨⟨default,default,default,default⟩⟩
def treeRowL(x:TreeRow):List AV:=[ai x.at_,slv treeNodeC x.pats_ .no,ab x.has_,ai x.body_.kind_,ai x.body_.at_,at' x.body_.name_,ai x.body_.n_,slv treeNodeC x.body_.sub_ .no]
theorem codecTreeRow:Codec treeRowL 8:=⟨fun _=>rfl,fun _=>⟨trivial,⟨trivial,dTreeNode _⟩,trivial,trivial,trivial,trivial,trivial,⟨trivial,dTreeNode _⟩,trivial⟩,fun _=>rfl⟩
theorem dTreeRow(l:List TreeRow):AV.DataL (flat treeRowL l):=flat_data codecTreeRow.data l
structure TreeDecl where
 kind_:Int
 at_:Int
 name_:ByteArray
 tele_:List TreeBind
 type_:TreeNode
 cons_:List TreeBind
 rows_:List TreeRow
instance:Inhabited TreeDecl:=⟨⟨default,default,⟨#[]⟩,default,default,default,default⟩⟩
def treeDeclL(x:TreeDecl):List AV:=[ai x.kind_,ai x.at_,at' x.name_,slv treeBindL x.tele_ .no,ai x.type_.kind_,ai x.type_.at_,at' x.type_.name_,ai x.type_.n_,slv treeNodeC x.type_.sub_ .no,slv treeBindL x.cons_ .no,slv treeRowL x.rows_ .no]
def treeDeclA(x:TreeDecl):AV:=.agg (treeDeclL x)
theorem codecTreeDecl:Codec treeDeclL 11:=⟨fun _=>rfl,fun _=>⟨trivial,trivial,trivial,⟨trivial,dTreeBind _⟩,trivial,trivial,trivial,trivial,⟨trivial,dTreeNode _⟩,⟨trivial,dTreeBind _⟩,⟨trivial,dTreeRow _⟩,trivial⟩,fun _=>rfl⟩
theorem dTreeDecl(l:List TreeDecl):AV.DataL (flat treeDeclL l):=flat_data codecTreeDecl.data l
structure TokenToken where
 kind_:Int
 text_:ByteArray
 at_:Int
instance:Inhabited TokenToken:=⟨⟨default,⟨#[]⟩,default⟩⟩
def tokenTokenL(x:TokenToken):List AV:=[ai x.kind_,at' x.text_,ai x.at_]
def tokenTokenA(x:TokenToken):AV:=.agg (tokenTokenL x)
theorem codecTokenToken:Codec tokenTokenL 3:=⟨fun _=>rfl,fun _=>⟨trivial,trivial,trivial,trivial⟩,fun _=>rfl⟩
theorem dTokenToken(l:List TokenToken):AV.DataL (flat tokenTokenL l):=flat_data codecTokenToken.data l
structure ParseReader where
 l_:List TokenToken
 i_:Int
 at_:Int
 bad_:Int
instance:Inhabited ParseReader:=⟨⟨default,default,default,default⟩⟩
structure IotaRules where
 l_:List Ent
 parts_:List Con'
instance:Inhabited IotaRules:=⟨⟨default,default⟩⟩
structure IotaMaker where
 e_:Int
instance:Inhabited IotaMaker:=⟨⟨default⟩⟩
structure TokenReader where
 signs_:List Int
 at_:List Int
 i_:Int
instance:Inhabited TokenReader:=⟨⟨default,default,default⟩⟩
structure ScopeScoper where
 l_:List Ent
 e_:Int
 at_:Int
instance:Inhabited ScopeScoper:=⟨⟨default,default,default⟩⟩
end Go.Ab
namespace Go.Proofs.YtedhamlfcienmaaGreat
open Go Go.Ab
theorem bcases(b:Bool):b=true∨b=false:=by cases b<;>simp
theorem forall_nil{α:Type}{p:α->Prop}:∀x∈([]:List α),p x:=fun _ h=>nomatch h
theorem forall_cons{α:Type}{p:α->Prop}{a:α}{l:List α}(h:p a)(k:∀x∈l,p x):∀x∈a::l,p x:=by
 intro x hx
 rcases List.mem_cons.1 hx with rfl|hx
 ·exact h
 ·exact k x hx
theorem o0:OL Tryz.prog [] []:=OL.nil
abbrev mB (M:Mach) (i:Nat):Blk:=.cells [slv entL M.l .no,.mp i 0,slv intC M.args .no,slv intC M.own .no]
abbrev mR (M:Mach):Blk:=.cells [slv entL M.rl .no,slv conL M.parts .no]
theorem tv:True:=trivial
theorem lz{a b:Nat}(h:Nat.ble (a+1) b=true):a<b:=Nat.le_of_ble_eq_true h
abbrev Ct:=CT Tryz.prog
abbrev Ci:=CTri Tryz.prog
abbrev Cf:=FuncId->List Blk->List AV->AV->List Blk->Nat->Prop
abbrev Qf (f:FuncId) (fn:Func):Prop:=Tryz.prog.funcs[f]? = some fn∧fn.body.isNone=false
section
variable {f:FuncId} {fn:Func} {H0 H1:List Blk} {args:List AV} {res:AV} {nst:Nat} {os:List Orc} {ob:List Ob}
theorem tF(q:Qf f fn)(m:Nat)(keep:List Nat)(k:OL Tryz.prog os ob)(h:kfin Tryz.prog prim H0.length fn 3000 (.run (bod fn)) [] (args++List.replicate (fn.ntmps-args.length) (.val undef)) (st0 H0) ((nos m++os).reverseAux []) [] keep [] false=some (res,H1,ob.reverseAux []):=by kernel_rfl):CTri Tryz.prog f H0 args res H1 0:=OL.toFin prim_ok mixed q m [] keep [] false k h (Nat.le_refl _)
theorem tG(q:Qf f fn)(m:Nat)(rs:List (Option Nat×Nat×Nat))(keep ks:List Nat)(own:Bool)(k:OL Tryz.prog os ob)(h:kfin Tryz.prog prim H0.length fn 3000 (.run (bod fn)) [] (args++List.replicate (fn.ntmps-args.length) (.val undef)) (st0 H0) ((nos m++os).reverseAux []) rs keep ks own=some (res,H1,ob.reverseAux []):=by kernel_rfl)(hn:nst≤ks.length:=by decide):CTri Tryz.prog f H0 args res H1 nst:=OL.toFin prim_ok mixed q m rs keep ks own k h hn
theorem tH(q:Qf f fn)(m:Nat)(rs:List (Option Nat×Nat×Nat))(keep ks live:List Nat)(k:OL Tryz.prog os ob){c:Code}{fs':List Fr}{E:(Nat->Value)->List AV}{S:LSt}(hk:∀j,Dl Tryz.prog H0.length c (E j) S (frameQ Tryz.prog H0.length (FinQ Tryz.prog H0.length fn res H1 nst) fs'))(h:∀j,khead Tryz.prog prim H0.length 3000 (.run (bod fn)) [] (args++List.replicate (fn.ntmps-args.length) (.val undef)) (st0 H0) ((nos m++os).reverseAux []) rs keep ks live j=some (c,fs',E j,S,ob.reverseAux []):=by intro j;kernel_rfl):CTri Tryz.prog f H0 args res H1 nst:=OL.toHead prim_ok mixed q m rs keep ks live k hk h
variable {na:Nb} {Q:AX->List AV->LSt->Prop} {c c':Code} {fs fs':List Fr} {env:List AV} {s S:LSt}
theorem lH(m:Nat)(rs:List (Option Nat×Nat×Nat))(keep ks live:List Nat)(k:OL Tryz.prog os ob){E:(Nat->Value)->List AV}(hk:∀j,Dl Tryz.prog na c' (E j) S (frameQ Tryz.prog na Q fs'))(h:∀j,khead Tryz.prog prim na.n 3000 (.run c) (.loop c::fs) env s ((nos m++os).reverseAux []) rs keep ks live j=some (c',fs',E j,S,ob.reverseAux []):=by intro j;kernel_rfl):Dl Tryz.prog na c env s (frameQ Tryz.prog na Q fs):=OL.lHead prim_ok mixed m rs keep ks live k hk h
theorem lF(m:Nat)(keep:List Nat)(k:OL Tryz.prog os ob)(h:kfin Tryz.prog prim na.n fn 3000 (.run c) (.loop c::fs) env s ((nos m++os).reverseAux []) [] keep [] false=some (res,H1,ob.reverseAux []):=by kernel_rfl):Dl Tryz.prog na c env s (frameQ Tryz.prog na (FinQ Tryz.prog na fn res H1 0) fs):=OL.lFin prim_ok mixed m [] keep [] false k h (Nat.le_refl _)
theorem lG(m:Nat)(rs:List (Option Nat×Nat×Nat))(keep ks:List Nat)(own:Bool)(k:OL Tryz.prog os ob)(h:kfin Tryz.prog prim na.n fn 3000 (.run c) (.loop c::fs) env s ((nos m++os).reverseAux []) rs keep ks own=some (res,H1,ob.reverseAux []):=by kernel_rfl)(hn:nst≤ks.length:=by decide):Dl Tryz.prog na c env s (frameQ Tryz.prog na (FinQ Tryz.prog na fn res H1 nst) fs):=OL.lFin prim_ok mixed m rs keep ks own k h hn
end
theorem info31:Tryz.prog.info? 31=some Tryz.t31:=by kernel_rfl
theorem info34:Tryz.prog.info? 34=some Tryz.t34:=by kernel_rfl
theorem apN22{l m r:List Ent}(h:gapp 192 l m=some r)(hm:m.length=0):Ob.ok Tryz.prog (.app 22 22 (flat entL l) (flat entL m) (flat entL r) l.length m.length r.length 15 true):=app_none' codecE Tryz.underlying22 info34 rfl rfl rfl (by decide) rfl (by decide) h hm
theorem apN29{l m r:List Tm}(h:gapp 40 l m=some r)(hm:m.length=0):Ob.ok Tryz.prog (.app 29 29 (flat tmCells l) (flat tmCells m) (flat tmCells r) l.length m.length r.length 3 true):=app_none' codecT Tryz.underlying29 info31 rfl rfl rfl (by decide) rfl (by decide) h hm
theorem info3:Tryz.prog.info? 3=some Tryz.t3:=by kernel_rfl
theorem apN32{l m r:List Int}(h:gapp 8 l m=some r)(hm:m.length=0):Ob.ok Tryz.prog (.app 32 32 (flat intC l) (flat intC m) (flat intC r) l.length m.length r.length 1 true):=app_none' codecI Tryz.underlying32 info3 rfl rfl rfl (by decide) rfl (by decide) h hm
theorem info170:Tryz.prog.info? 170=some Tryz.t170:=by kernel_rfl
theorem apN56{l m r:List TreeBind}(h:gapp 88 l m=some r)(hm:m.length=0):Ob.ok Tryz.prog (.app 56 56 (flat treeBindL l) (flat treeBindL m) (flat treeBindL r) l.length m.length r.length 7 true):=app_none' codecTreeBind Tryz.underlying56 info170 rfl rfl rfl (by decide) rfl (by decide) h hm
theorem info9:Tryz.prog.info? 9=some Tryz.t9:=by kernel_rfl
theorem apN63{l m r:List ByteArray}(h:gapp 16 l m=some r)(hm:m.length=0):Ob.ok Tryz.prog (.app 63 63 (flat strC l) (flat strC m) (flat strC r) l.length m.length r.length 1 true):=app_none' codecS Tryz.underlying63 info9 rfl rfl rfl (by decide) rfl (by decide) h hm
theorem apQ32{n:Nat}(h:n=0):Ob.ok Tryz.prog (.same 32 32 n):=same_ok Tryz.underlying32 info3 h
theorem info62:Tryz.prog.info? 62=some Tryz.t62:=by kernel_rfl
theorem apS105{l m r:List TreeDecl}(h:gapp 168 l m=some r)(hm:m.length≠0):Ob.ok Tryz.prog (.app 105 105 (flat treeDeclL l) (flat treeDeclL m) (flat treeDeclL r) l.length m.length r.length 11 false):=app_some codecTreeDecl Tryz.underlying105 info62 rfl rfl rfl (by decide) rfl (by decide) h hm
theorem info133:Tryz.prog.info? 133=some Tryz.t133:=by kernel_rfl
theorem apS129{l m r:List TokenToken}(h:gapp 32 l m=some r)(hm:m.length≠0):Ob.ok Tryz.prog (.app 129 129 (flat tokenTokenL l) (flat tokenTokenL m) (flat tokenTokenL r) l.length m.length r.length 3 false):=app_some codecTokenToken Tryz.underlying129 info133 rfl rfl rfl (by decide) rfl (by decide) h hm
theorem info229:Tryz.prog.info? 229=some Tryz.t229:=by kernel_rfl
theorem apS182{l m r:List Rec'}(h:gapp 56 l m=some r)(hm:m.length≠0):Ob.ok Tryz.prog (.app 182 182 (flat recL l) (flat recL m) (flat recL r) l.length m.length r.length 3 false):=app_some codecR Tryz.underlying182 info229 rfl rfl rfl (by decide) rfl (by decide) h hm
theorem apS22{l m r:List Ent}(h:gapp 192 l m=some r)(hm:m.length≠0):Ob.ok Tryz.prog (.app 22 22 (flat entL l) (flat entL m) (flat entL r) l.length m.length r.length 15 false):=app_some codecE Tryz.underlying22 info34 rfl rfl rfl (by decide) rfl (by decide) h hm
theorem apS29{l m r:List Tm}(h:gapp 40 l m=some r)(hm:m.length≠0):Ob.ok Tryz.prog (.app 29 29 (flat tmCells l) (flat tmCells m) (flat tmCells r) l.length m.length r.length 3 false):=app_some codecT Tryz.underlying29 info31 rfl rfl rfl (by decide) rfl (by decide) h hm
theorem apS32{l m r:List Int}(h:gapp 8 l m=some r)(hm:m.length≠0):Ob.ok Tryz.prog (.app 32 32 (flat intC l) (flat intC m) (flat intC r) l.length m.length r.length 1 false):=app_some codecI Tryz.underlying32 info3 rfl rfl rfl (by decide) rfl (by decide) h hm
theorem apS56{l m r:List TreeBind}(h:gapp 88 l m=some r)(hm:m.length≠0):Ob.ok Tryz.prog (.app 56 56 (flat treeBindL l) (flat treeBindL m) (flat treeBindL r) l.length m.length r.length 7 false):=app_some codecTreeBind Tryz.underlying56 info170 rfl rfl rfl (by decide) rfl (by decide) h hm
theorem apS63{l m r:List ByteArray}(h:gapp 16 l m=some r)(hm:m.length≠0):Ob.ok Tryz.prog (.app 63 63 (flat strC l) (flat strC m) (flat strC r) l.length m.length r.length 1 false):=app_some codecS Tryz.underlying63 info9 rfl rfl rfl (by decide) rfl (by decide) h hm
theorem apSZ22{l m r:List EntZ}(h:gapp 192 l m=some r)(hm:m.length≠0):Ob.ok Tryz.prog (.app 22 22 (flat entZ l) (flat entZ m) (flat entZ r) l.length m.length r.length 15 false):=app_some codecEZ Tryz.underlying22 info34 rfl rfl rfl (by decide) rfl (by decide) h hm
theorem info5:Tryz.prog.info? 5=some Tryz.t5:=by kernel_rfl
theorem apT274_9{l r:List U8}{bs:ByteArray}(h:gapp 1 l (gbs bs)=some r)(hm:(gbs bs).length≠0):Ob.ok Tryz.prog (.aps 274 9 (flat u8C l) bs (flat u8C r) l.length r.length 1 false):=aps_some Tryz.underlying274 Tryz.underlying9 info5 rfl rfl rfl rfl h (by rwa[gbs_len]at hm)
theorem apTN274_9{l r:List U8}{bs:ByteArray}(h:gapp 1 l (gbs bs)=some r)(hm:(gbs bs).length=0):Ob.ok Tryz.prog (.aps 274 9 (flat u8C l) bs (flat u8C r) l.length r.length 1 true):=aps_none Tryz.underlying274 Tryz.underlying9 info5 rfl rfl rfl rfl h (by rwa[gbs_len]at hm)
theorem apW32{m r:List Int}(h:gapp 8 ([]:List Int) m=some r)(hm:m.length≠0):Ob.ok Tryz.prog (.mk (rapp Tryz.prog 32 32 (none) [] 0 none (flat intC m) m.length) (flat intC r) r.length):=rappN_ok codecI Tryz.underlying32 info3 rfl rfl rfl (by decide) rfl (by decide) h hm
theorem cv274_9(l:List U8){o:Own}:aconvert Tryz.prog 274 9 (.sl (flat u8C l) l.length o)=some (at' (gstr l)):=cvStr_ok Tryz.underlying274 Tryz.underlying9 Tryz.underlying5 l
theorem ix105{l:List TreeDecl}{i:Int}{o:Own}{x:TreeDecl}(h:gidx l i=some x):aindexAddr Tryz.prog 105 (.sl (flat treeDeclL l) l.length o) (ai i)=some (.ip (treeDeclL x++flat treeDeclL (l.drop (i.toNat+1)))):=by
 have:=ix_ok codecTreeDecl (k:=.i64) Tryz.underlying105 info62 rfl h (o:=o)
 exact this
theorem ix129{l:List TokenToken}{i:Int}{o:Own}{x:TokenToken}(h:gidx l i=some x):aindexAddr Tryz.prog 129 (.sl (flat tokenTokenL l) l.length o) (ai i)=some (.ip (tokenTokenL x++flat tokenTokenL (l.drop (i.toNat+1)))):=by
 have:=ix_ok codecTokenToken (k:=.i64) Tryz.underlying129 info133 rfl h (o:=o)
 exact this
theorem ix22{l:List Ent}{i:Int}{o:Own}{x:Ent}(h:gidx l i=some x):aindexAddr Tryz.prog 22 (.sl (flat entL l) l.length o) (ai i)=some (.ip (entL x++flat entL (l.drop (i.toNat+1)))):=by
 have:=ix_ok codecE (k:=.i64) Tryz.underlying22 info34 rfl h (o:=o)
 exact this
theorem info22:Tryz.prog.info? 22=some Tryz.t22:=by kernel_rfl
theorem ix255{l:List (List Ent)}{i:Int}{o:Own}{x:List Ent}(h:gidx l i=some x):aindexAddr Tryz.prog 255 (.sl (flat (slC entL) l) l.length o) (ai i)=some (.ip ((slC entL) x++flat (slC entL) (l.drop (i.toNat+1)))):=by
 have:=ix_ok (codSl codecE) (k:=.i64) Tryz.underlying255 info22 rfl h (o:=o)
 exact this
theorem ix29{l:List Tm}{i:Int}{o:Own}{x:Tm}(h:gidx l i=some x):aindexAddr Tryz.prog 29 (.sl (flat tmCells l) l.length o) (ai i)=some (.ip (tmL x++flat tmCells (l.drop (i.toNat+1)))):=by
 have:=ix_ok codecT (k:=.i64) Tryz.underlying29 info31 rfl h (o:=o)
 rw[tm_eq]at this
 exact this
theorem ix32{l:List Int}{i:Int}{o:Own}{x:Int}(h:gidx l i=some x):aindexAddr Tryz.prog 32 (.sl (flat intC l) l.length o) (ai i)=some (.ip (intC x++flat intC (l.drop (i.toNat+1)))):=by
 have:=ix_ok codecI (k:=.i64) Tryz.underlying32 info3 rfl h (o:=o)
 exact this
theorem ix56{l:List TreeBind}{i:Int}{o:Own}{x:TreeBind}(h:gidx l i=some x):aindexAddr Tryz.prog 56 (.sl (flat treeBindL l) l.length o) (ai i)=some (.ip (treeBindL x++flat treeBindL (l.drop (i.toNat+1)))):=by
 have:=ix_ok codecTreeBind (k:=.i64) Tryz.underlying56 info170 rfl h (o:=o)
 exact this
theorem info59:Tryz.prog.info? 59=some Tryz.t59:=by kernel_rfl
theorem ix57{l:List TreeNode}{i:Int}{o:Own}{x:TreeNode}(h:gidx l i=some x):aindexAddr Tryz.prog 57 (.sl (flat treeNodeC l) l.length o) (ai i)=some (.ip (treeNodeL x++flat treeNodeC (l.drop (i.toNat+1)))):=by
 have:=ix_ok codecTreeNode (k:=.i64) Tryz.underlying57 info59 rfl h (o:=o)
 rw[treeNode_eq]at this
 exact this
theorem ix63{l:List ByteArray}{i:Int}{o:Own}{x:ByteArray}(h:gidx l i=some x):aindexAddr Tryz.prog 63 (.sl (flat strC l) l.length o) (ai i)=some (.ip (strC x++flat strC (l.drop (i.toNat+1)))):=by
 have:=ix_ok codecS (k:=.i64) Tryz.underlying63 info9 rfl h (o:=o)
 exact this
theorem ixArr226{l:List Int}{i x:Int}(h:gidx l i=some x)(hl:l.length=9):aindex Tryz.prog 226 (.agg (flat intC l)) (ai i)=some (ai x):=ixArr_ok (k:=.i64) Tryz.underlying226 (q:=(false,1)) (by kernel_rfl) rfl hl h
theorem ixArr302{l:List Int}{i x:Int}(h:gidx l i=some x)(hl:l.length=11):aindex Tryz.prog 302 (.agg (flat intC l)) (ai i)=some (ai x):=ixArr_ok (k:=.i64) Tryz.underlying302 (q:=(false,1)) (by kernel_rfl) rfl hl h
theorem info184:Tryz.prog.info? 184=some Tryz.t184:=by kernel_rfl
theorem ixM147{b n k c z:Nat}{i:Int}(h:gchk n i=some k):aindexAddr Tryz.prog 147 (.ms b 0 n c z) (ai i)=some (.mp b (k*3)):=chk_ok Tryz.underlying147 info184 rfl h
theorem ixM22{b n k c z:Nat}{i:Int}(h:gchk n i=some k):aindexAddr Tryz.prog 22 (.ms b 0 n c z) (ai i)=some (.mp b (k*15)):=chk_ok Tryz.underlying22 info34 rfl h
theorem ixStr9{s:ByteArray}{i x:Int}(h:gbyte s i=some x):aindex Tryz.prog 9 (at' s) (ai i)=some (.val (.int .u8 x)):=ixStr_ok Tryz.underlying9 h
theorem ixZ22{l:List EntZ}{i:Int}{o:Own}{x:EntZ}(h:gidx l i=some x):aindexAddr Tryz.prog 22 (.sl (flat entZ l) l.length o) (ai i)=some (.ip (entZ x++flat entZ (l.drop (i.toNat+1)))):=by
 have:=ix_ok codecEZ (k:=.i64) Tryz.underlying22 info34 rfl h (o:=o)
 exact this
theorem lk109(m:List (ByteArray×Int))(k:ByteArray):Ob.ok Tryz.prog (.lk 109 (smap m) (at' k) false (ai (mget m k))):=lk_ok Tryz.underlying109 Tryz.underlying9 info3 rfl m k
theorem mkM147{n:Int}{l:List Con'}(h:gmk 72 (default:Con') n=some l):Ob.ok Tryz.prog (.mk (amakems Tryz.prog 147 (ai n) (ai n)) (flat conL l) l.length):=mk_ok Tryz.underlying147 info184 rfl rfl rfl (by decide) rfl (by decide) (by rfl) h
theorem mu109(m:List (ByteArray×Int))(k:ByteArray)(v:Int):Ob.ok Tryz.prog (.mu 109 (smap m) (at' k) (ai v) (smap (mset m k v))):=mu_ok Tryz.underlying109 Tryz.underlying9 m k v
theorem sl32{l r:List Int}{a b:Int}(h:gsl l a b=some r):aslice Tryz.prog 32 (.sl (flat intC l) l.length .no) (some (ai a)) (some (ai b)) none=some (.sl (flat intC r) r.length .no):=slice_ok codecI Tryz.underlying32 info3 rfl h
theorem slFrom29{l r:List Tm}{a:Int}(h:gsl l a l.length=some r):aslice Tryz.prog 29 (.sl (flat tmCells l) l.length .no) (some (ai a)) none none=some (.sl (flat tmCells r) r.length .no):=sliceFrom_ok codecT Tryz.underlying29 info31 rfl h
theorem slMTo22{b off n c:Nat}{y:Int}{r:Nat×Nat}(h:gcut c 0 y=some r):aslice Tryz.prog 22 (.ms b off n c 15) none (some (ai y)) none=some (.ms b off r.2 c 15):=slMTo_ok Tryz.underlying22 info34 rfl (by decide) h
theorem slTo22{l r:List Ent}{b:Int}(h:gsl l 0 b=some r):aslice Tryz.prog 22 (.sl (flat entL l) l.length .no) none (some (ai b)) none=some (.sl (flat entL r) r.length .no):=sliceTo_ok codecE Tryz.underlying22 info34 rfl h
theorem slTo29{l r:List Tm}{b:Int}(h:gsl l 0 b=some r):aslice Tryz.prog 29 (.sl (flat tmCells l) l.length .no) none (some (ai b)) none=some (.sl (flat tmCells r) r.length .no):=sliceTo_ok codecT Tryz.underlying29 info31 rfl h
theorem slTo3_29{l r:List Tm}{b:Int}{o:Own}(h:gsl l 0 b=some r):aslice Tryz.prog 29 (.sl (flat tmCells l) l.length o) none (some (ai b)) (some (ai b))=some (.sl (flat tmCells r) r.length .full):=sliceTo3_ok codecT Tryz.underlying29 info31 rfl h
theorem slTo3_63{l r:List ByteArray}{b:Int}{o:Own}(h:gsl l 0 b=some r):aslice Tryz.prog 63 (.sl (flat strC l) l.length o) none (some (ai b)) (some (ai b))=some (.sl (flat strC r) r.length .full):=sliceTo3_ok codecS Tryz.underlying63 info9 rfl h
theorem zrM22_3{n:Int}{l:List Ent}(hp:n>0)(h:gmk 192 (default:Ent) n=some l):Ob.ok Tryz.prog (.mk (azero Tryz.prog 22 3 (ai n)) (flat entL l) l.length):=zr_ok Tryz.underlying3 hp (mk_ok Tryz.underlying22 info34 rfl rfl rfl (by decide) rfl (by decide) (by rfl) h)
end Go.Proofs.YtedhamlfcienmaaGreat
namespace Go.Ab
open Go
def AV.isVal(a:AV):Prop:=∃v,a = .val v
def Blk.isVals(X:Blk):Prop:=∃cs,X = .cells cs∧∀a∈cs,a.isVal
def AV.lent(m:Nat)(a:AV):Prop:=a.isVal∨∃i off,a = .mp i off∧i<m
theorem VL.split{G:Gh}{w:World}:∀(a b:List AV) (us:List Value),VL G w (a++b) us->∃u1 u2,us=u1++u2∧VL G w a u1∧VL G w b u2
 | [],b,us,h=>⟨[],us,rfl,by simp only[VL],h⟩
 |x::a,b,[],h=>by simp only[List.cons_append,VL]at h
 |x::a,b,u::us,h=>by
  simp only[List.cons_append,VL]at h
  obtain⟨u1,u2,rfl,h1,h2⟩:=VL.split a b us h.2
  exact⟨u::u1,u2,rfl,by simp only[VL];exact⟨h.1,h1⟩,h2⟩
theorem VL.vals{G G':Gh}{w w':World}:∀(a:List AV) (us:List Value),(∀x∈a,x.isVal)->VL G w a us->VL G' w' a us
 | [],[],_,_=>by simp only[VL]
 | [],_::_,_,h=>by simp only[VL]at h
 |_::_,[],_,h=>by simp only[VL]at h
 |x::a,u::us,hx,h=>by
  simp only[VL]at h ⊢
  refine⟨?_,VL.vals a us (fun y hy=>hx y (List.mem_cons_of_mem _ hy)) h.2⟩
  obtain⟨v,rfl⟩:=hx x (List.mem_cons_self ..)
  have:=h.1
  simp only[V]at this ⊢
  exact this
theorem VL.lent{G G':Gh}{w w':World}{m:Nat}(hρ:∀i b,i<m->G.ρ i=some b->G'.ρ i=some b):∀(a:List AV) (us:List Value),(∀x∈a,x.lent m)->VL G w a us->VL G' w' a us
 | [],[],_,_=>by simp only[VL]
 | [],_::_,_,h=>by simp only[VL]at h
 |_::_,[],_,h=>by simp only[VL]at h
 |x::a,u::us,hx,h=>by
  simp only[VL]at h ⊢
  refine⟨?_,VL.lent hρ a us (fun y hy=>hx y (List.mem_cons_of_mem _ hy)) h.2⟩
  have h1:=h.1
  rcases hx x (List.mem_cons_self ..)with⟨v,rfl⟩|⟨i,off,rfl,hi⟩
  ·simp only[V]at h1 ⊢
   exact h1
  ·simp only[V]at h1 ⊢
   obtain⟨b,hb,e⟩:=h1
   exact⟨b,hρ i b hi hb,e⟩
theorem CTri.lend{P:Program}{f:FuncId}{H0 H1:List Blk}{a1 a2 cs:List AV}{n c sz:Nat}{res:AV}(h:CTri P f H0 (a1 ++ .sl cs n .no::a2) res H1 0)(hl:H1.length=H0.length)
  (s0:∀X∈H0,X.isVals) (s1:∀X∈H1,X.isVals) (sr:res.isVal) (sa:∀a∈a1,a.lent H0.length) (sb:∀a∈a2,a.lent H0.length) (hcs:AV.DataL cs) (hne:cs≠[]) :
  CTri P f (H0++[.row cs]) (a1 ++ .ms H0.length 0 n c sz::a2) res (H1++[.row cs]) 0:=by
 intro G0 W cargs hB hR hv
 have hσ:∀i,(over (Emp 0) (st0 (H0++[.row cs]))).H i=(H0++[.row cs])[i]?:=fun i=>st0_H _ _
 have hσ0:∀i,(over (Emp 0) (st0 H0)).H i=H0[i]?:=fun i=>st0_H _ _
 have hσ1:∀i,(over (Emp 0) (st0 (H1++[.row cs]))).H i=(H1++[.row cs])[i]?:=fun i=>st0_H _ _
 have nd:∀i,(H0++[Blk.row cs])[i]?≠some Blk.dead:=fun i e=>by
  rcases List.mem_append.1 (List.mem_of_getElem? e)with h1|h1
  ·obtain⟨ds,e2,-⟩:=s0 _ h1;cases e2
  ·cases List.mem_singleton.1 h1
 have inj:∀i j b,G0.ρ i=some b->G0.ρ j=some b->i=j:=fun i j b hi hj=>by
  rcases hR.inj i j b hi hj with e|e|e
  ·exact e
  ·rw[hσ]at e;exact absurd e (nd i)
  ·rw[hσ]at e;exact absurd e (nd j)
 obtain⟨us1,us2,hus,hv1,hv2⟩:=VL.split a1 _ _ hv
 cases us2 with
 |nil=>simp only[VL]at hv2
 |cons u0 us2=>
 simp only[VL]at hv2
 obtain⟨hms,hv2⟩:=hv2
 simp only[V]at hms
 rcases hms with hms|⟨-,hN,-⟩
 case inr=>
  have:=((hR.dom H0.length).2.2 hN).2 (.row cs) (by rw[hσ];simp)
  exact absurd (Blk.void_row this) hne
 obtain⟨b,cap,hρ,⟨hnc,hcc⟩,o,rfl,⟨rfl,hroom⟩|⟨-,h0⟩⟩:=hms
 case inr=>exact absurd h0 (Nat.lt_irrefl _)
 obtain⟨hFb,vs,T,hheap,us,rest,husr,hvl⟩:=hR.blk H0.length b (.row cs) hρ (by rw[hσ];simp)
 have hlen:=VL.length _ _ hvl
 have hvsz:us.length≤vs.size:=by
  have:=congrArg List.length husr
  rw[List.length_append,Array.length_toList]at this
  omega
 have hcell:∀i,i<vs.size->∃v,W.cell? ⟨b,i,none⟩=some v:=fun i hi=>⟨vs[i],by simp[World.cell?,hheap,hi]⟩
 have hcellu:∀i (hi:i<us.length),W.cell? ⟨b,0+i,none⟩=some us[i]:=by
  intro i hi
  have:vs[i]? = some us[i]:=by
   have h1:vs.toList[i]? = some us[i]:=by rw[husr,List.getElem?_append_left hi,List.getElem?_eq_getElem hi]
   simpa using h1
  rw[Nat.zero_add]
  simp[World.cell?,hheap,this]
 let G1:Gh:={ ρ:=fun i=>if i<H0.length then G0.ρ i else none,τ:=G0.τ,L:=fun c o=>G0.L c o∨(c=b∧o<vs.size),w0:=W,F:=fun k=>G0.F k∨k=b,N:=fun i=>i<H0.length∧G0.N i }
 have hρ1:∀i c,i<H0.length->G0.ρ i=some c->G1.ρ i=some c:=fun i c hi e=>by show (if i<H0.length then G0.ρ i else none)=_;rw[if_pos hi];exact e
 have hρ2:∀i c,G1.ρ i=some c->i<H0.length∧G0.ρ i=some c:=fun i c e=>by
  have e':(if i<H0.length then G0.ρ i else none)=some c:=e
  split at e'
  ·rename_i hi;exact⟨hi,e'⟩
  ·cases e'
 have hB1:Base H0.length G1:=⟨fun i hi=>⟨by show (if i<H0.length then G0.ρ i else none)=none;rw[if_neg (Nat.not_lt.2 hi)],fun h=>absurd h.1 (Nat.not_lt.2 hi)⟩,hB.τ,fun c o e=>e.elim (fun e=>.inl (hB.LF c o e)) fun e=>.inr e.1,trivial⟩
 have notb:∀i,G1.ρ i≠some b:=fun i e=>by
  obtain⟨h1,h2⟩:=hρ2 i b e
  have:=inj i H0.length b h2 hρ
  omega
 have hR1:RelS G1 (over (Emp 0) (st0 H0)) W:=by
  refine⟨fun i=>?_,⟨H0.length,fun i hi=>?_⟩,fun i j c hi hj=>.inl (inj i j c (hρ2 i c hi).2 (hρ2 j c hj).2),fun i c X hi hX=>?_,fun c o hL=>?_,fun k _=>hB.τ k,fun k hk=>?_,fun k k' b f t f' t' hk=>?_,Keep.refl _ _,fun k hk=>?_⟩
  ·rw[hσ0]
   show DomA (if i<H0.length then G0.ρ i else none) (i<H0.length∧G0.N i) _
   have hd:=hR.dom i
   rw[hσ]at hd
   split
   ·rename_i hi
    rw[List.getElem?_append_left hi]at hd
    exact⟨fun e=>(hd.1 e).imp (fun q=>⟨hi,q⟩) id,fun e=>⟨(hd.2.1 e).1,fun q=>(hd.2.1 e).2 q.2⟩,fun q=>hd.2.2 q.2⟩
   ·rename_i hi
    exact⟨fun _=>.inr (by simp;omega),fun _=>⟨rfl,fun q=>hi q.1⟩,fun q=>absurd q.1 hi⟩
  ·rw[hσ0];simp;exact hi
  ·obtain⟨hlt,hi0⟩:=hρ2 i c hi
   rw[hσ0]at hX
   obtain⟨q1,q2⟩:=hR.blk i c X hi0 (by rw[hσ,List.getElem?_append_left hlt];exact hX)
   obtain⟨ds,rfl,hds⟩:=s0 X (List.mem_of_getElem? hX)
   refine⟨fun e=>e.elim q1 fun e=>notb i (by rw[←e];exact hi),?_⟩
   obtain⟨vs',T',q3,q4⟩:=q2
   exact⟨vs',T',q3,q4.imp fun us=>VL.vals _ us hds⟩
  ·rcases hL with hL|⟨rfl,hlt⟩
   ·obtain⟨q1,q2⟩:=hR.live c o hL
    exact⟨q1,fun i hi=>q2 i (hρ2 i c hi).2⟩
   ·exact⟨hcell o hlt,notb⟩
  ·rw[over_own]at hk;simp[st0]at hk
  ·rw[over_own]at hk;simp[st0]at hk
  ·rcases hk with hk|rfl
   ·exact hR.base k hk
   ·exact(Array.getElem?_eq_some_iff.1 hheap).1
 have hV1:VL G1 W (a1 ++ .sl cs n .no::a2) cargs.toList:=by
  rw[hus]
  refine VL.append a1 us1 _ _ (VL.lent hρ1 a1 us1 sa hv1) ?_
  simp only[VL,V]
  refine⟨⟨cap,by omega,.inr ⟨b,0,rfl,?_,trivial⟩⟩,VL.lent hρ1 a2 us2 sb hv2⟩
  exact VC.of_cells cs us b 0 (VL.data (G':=G1) (fun _ _ e=>Or.inl e) cs us hcs hvl) (fun i hi=>.inr ⟨rfl,by omega⟩) hcellu
 refine(h G1 W cargs hB1 hR1 hV1).mono ?_
 rintro e W' ⟨u,G',s',rfl,hE,hR',hu,hb,-⟩
 have hK:Keep G1.F W W':=by
  have:=hR'.below
  rw[hE.F,hE.w0]at this
  exact this
 have hE0:Ext G0 W G0 W':=by
  refine⟨fun _ _ e=>e,fun _ _ e=>e,fun _ _ e=>e,fun c o e=>hE.cell c o (.inl e),rfl,rfl,fun _ _ e=>.inl e,fun i c k hi hr=>?_,fun _ e=>e⟩
  by_cases hlt:i<H0.length
  ·exact hE.room i c k (hρ1 i c hlt hi) hr
  ·have him:i=H0.length:=by
    by_cases hge:(H0++[Blk.row cs]).length≤i
    ·rw[(hB.ρ i hge).1]at hi;cases hi
    ·simp at hge;omega
   subst him
   rw[hρ]at hi;cases hi
   obtain⟨vs',T',h1,h2⟩:=hr
   exact⟨vs',T',by rw[hK.block b (.inr rfl)];exact h1,h2⟩
 refine⟨u,G0,st0 (H1++[.row cs]),rfl,hE0,?_,?_,fun i X hX=>?_,fun k hk=>absurd hk (Nat.not_lt_zero k)⟩
 ·refine⟨fun i=>?_,⟨H0.length+1,fun i hi=>?_⟩,fun i j c hi hj=>.inl (inj i j c hi hj),fun i c X hi hX=>?_,fun c o hL=>?_,fun k _=>hB.τ k,fun k hk=>?_,fun k k' b f t f' t' hk=>?_,hR.below.trans (hK.mono fun k hk=>.inl hk),fun k hk=>Nat.lt_of_lt_of_le (hR.base k hk) hK.size⟩
  ·have hd:=hR.dom i
   rw[hσ]at hd
   rw[hσ1]
   by_cases hi:i<H0.length
   ·rw[List.getElem?_append_left hi,List.getElem?_eq_getElem hi]at hd
    rw[List.getElem?_append_left (by omega),List.getElem?_eq_getElem (by omega)]
    refine⟨(fun e=>(hd.1 e).imp id (fun q=>nomatch q)),(fun e=>nomatch e),fun e=>?_⟩
    have hv:=(hd.2.2 e).2 _ rfl
    obtain⟨ds,e2,-⟩:=s0 _ (List.getElem_mem hi)
    rw[e2]at hv
    exact absurd hv (by simp[Blk.void])
   ·rw[List.getElem?_append_right (by omega)]at hd ⊢
    rw[hl];exact hd
  ·rw[hσ1];simp[hl];omega
  ·rw[hσ1]at hX
   by_cases hlt:i<H0.length
   ·rw[List.getElem?_append_left (by omega)]at hX
    have hi':=hE.ρ i c (hρ1 i c hlt hi)
    obtain⟨q1,q2⟩:=hR'.blk i c X hi' (by rw[over_H];exact hb i X hX)
    rw[hE.F]at q1
    obtain⟨ds,rfl,hds⟩:=s1 X (List.mem_of_getElem? hX)
    refine⟨fun e=>q1 (.inl e),?_⟩
    obtain⟨vs',T',q3,q4⟩:=q2
    exact⟨vs',T',q3,q4.imp fun us=>VL.vals _ us hds⟩
   ·have hlt2:=(List.getElem?_eq_some_iff.1 hX).1
    have him:i=H0.length:=by simp at hlt2;omega
    subst him
    rw[hρ]at hi;cases hi
    rw[show H0.length=H1.length from hl.symm]at hX
    simp at hX
    subst hX
    refine⟨hFb,vs,T,by rw[hK.block b (.inr rfl)];exact hheap,us,rest,husr,VL.mono hE0 cs us hvl⟩
  ·obtain⟨⟨v,q1⟩,q2⟩:=hR.live c o hL
   exact⟨⟨v,by rw[hE.cell c o (.inl hL)];exact q1⟩,q2⟩
  ·rw[over_own]at hk;simp[st0]at hk
  ·rw[over_own]at hk;simp[st0]at hk
 ·obtain⟨v,rfl⟩:=sr
  simp only[V]at hu ⊢
  exact hu
 ·have:=hσ1 i
  rw[over_H]at this
  rw[this];exact hX
theorem argL_app{p:Nat->Prop}:∀(a b:List AV),AV.argL p a->AV.argL p b->AV.argL p (a++b)
 | [],_,_,hb=>hb
 |_::a,b,ha,hb=>by
  rw[List.cons_append]
  simp only[AV.argL]at ha ⊢
  exact⟨ha.1,argL_app a b ha.2 hb⟩
theorem argL_lent{m k:Nat}(hk:m≤k):∀(l:List AV),(∀a∈l,a.lent m)->AV.argL (fun i=>i<k) l
 | [],_=>by simp only[AV.argL]
 |a::l,h=>by
  simp only[AV.argL]
  refine⟨?_,argL_lent hk l fun b hb=>h b (List.mem_cons_of_mem _ hb)⟩
  rcases h a (List.mem_cons_self ..)with⟨v,rfl⟩|⟨i,off,rfl,hi⟩
  ·simp only[AV.arg]
  ·simp only[AV.arg];omega
theorem argL_vals{p:Nat->Prop}:∀(l:List AV),(∀a∈l,a.isVal)->AV.argL p l∧AV.fineL p l
 | [],_=>by simp only[AV.argL,AV.fineL,and_self]
 |a::l,h=>by
  obtain⟨v,rfl⟩:=h a (List.mem_cons_self ..)
  have:=argL_vals (p:=p) l fun b hb=>h b (List.mem_cons_of_mem _ hb)
  simp only[AV.argL,AV.arg,AV.fineL,AV.fine,true_and]
  exact this
theorem CT.lend{P:Program}{f:FuncId}{H0 H1:List Blk}{a1 a2 cs:List AV}{n c sz:Nat}{res:AV}(h:CT P f H0 (a1 ++ .sl cs n .no::a2) res H1 0)(hl:H1.length=H0.length)
  (s0:∀X∈H0,X.isVals) (s1:∀X∈H1,X.isVals) (sr:res.isVal) (sa:∀a∈a1,a.lent H0.length) (sb:∀a∈a2,a.lent H0.length) (hcs:AV.DataL cs) (hne:cs≠[]) :
  CT P f (H0++[.row cs]) (a1 ++ .ms H0.length 0 n c sz::a2) res (H1++[.row cs]) 0 where
 tri:=h.tri.lend hl s0 s1 sr sa sb hcs hne
 args:=by
  rw[List.length_append]
  refine argL_app _ _ (argL_lent (Nat.le_add_right _ _) _ sa) ?_
  simp only[AV.argL,AV.arg]
  exact⟨by simp,argL_lent (Nat.le_add_right _ _) _ sb⟩
 H0:=fun X hX=>by
  rcases List.mem_append.1 hX with hX|hX
  ·obtain⟨ds,rfl,hd⟩:=s0 X hX
   exact(argL_vals ds hd).1
  ·rw[List.mem_singleton.1 hX];exact hcs
 res:=by obtain⟨v,rfl⟩:=sr;simp only[AV.fine]
 H1:=fun X hX=>by
  rcases List.mem_append.1 hX with hX|hX
  ·obtain⟨ds,rfl,hd⟩:=s1 X hX
   exact(argL_vals ds hd).2
  ·rw[List.mem_singleton.1 hX];exact hcs
end Go.Ab
namespace Go.Proofs.YtedhamlfcienmaaGreat
open Go Go.Ab
def e26(qq:Nat)(p0:Int)(p1 p2:Tm):Option (Tm):=
 some (Tm.mk p0 0 [p1,p2])
abbrev K26 (p0:Int) (p1 p2 r:Tm) (C:Cf):Prop:=C 26 [] [ai p0,tmA p1,tmA p2] (tmA r) [] 0
theorem q26:Qf 26 Tryz.f26:=⟨Tryz.func26,by kernel_rfl⟩
theorem k26{p0 p1 p2 r}(h:K26 p0 p1 p2 r Ci):K26 p0 p1 p2 r Ct:=⟨h,⟨tv,⟨tv,tv,⟨tv,dT _⟩,tv⟩,⟨tv,tv,⟨tv,dT _⟩,tv⟩,tv⟩,forall_nil,⟨tv,tv,dT _,tv⟩,forall_nil⟩
theorem c26{qq p0 p1 p2 r}(h:e26 qq p0 p1 p2=some r):K26 p0 p1 p2 r Ct:=by
 unfold e26 at h
 obtain rfl:=sj h
 exact k26 (tF q26 1 [] (oD (dT [p1,p2])<|oS 2 (obLitR tm_eq [p1,p2]) o0))
def e27Laa:Nat->(List Tm)->Int->Int->Int->(List Tm)->Option (Tm)
 |0,_,_,_,_,_=>none
 |qq+1,p1,v5,vb0_0,vb0_1,vb0_2=>
 if decide (v5<(List.length p1:Int))then
 gidx p1 v5>>=fun x2=>
 e26 qq 5 (Tm.mk vb0_0 vb0_1 vb0_2) x2>>=fun r4=>
 e27Laa qq p1 (w64 (v5+1)) r4.k r4.n r4.sub
 else
 some (Tm.mk vb0_0 vb0_1 vb0_2)
def e27(qq:Nat)(p0:Tm)(p1:List Tm):Option (Tm):=
 e27Laa qq p1 0 p0.k p0.n p0.sub
def g27LaaE0(j:Nat->Value)(p1:List Tm)(v5 vb0_0 vb0_1:Int)(vb0_2:List Tm):=sp j 19 0 [(1,slv tmCells p1 .no),(2,.mp 0 0),(4,.mp 1 0),(5,ai v5)]
def g27LaaS0(p1:List Tm)(v5 vb0_0 vb0_1:Int)(vb0_2:List Tm):LSt:=⟨[(0,.cells [ai vb0_0,ai vb0_1,slv tmCells vb0_2 .no]),(1,.cells [ai 0,ai 0,slv tmCells ([]:List Tm) .nl])],2,[],0,[]⟩
abbrev K27 (p0:Tm) (p1:List Tm) (r:Tm) (C:Cf):Prop:=C 27 [] [tmA p0,slv tmCells p1 .no] (tmA r) [] 0
theorem q27:Qf 27 Tryz.f27:=⟨Tryz.func27,by kernel_rfl⟩
theorem k27{p0 p1 r}(h:K27 p0 p1 r Ci):K27 p0 p1 r Ct:=⟨h,⟨⟨tv,tv,⟨tv,dT _⟩,tv⟩,⟨tv,dT _⟩,tv⟩,forall_nil,⟨tv,tv,dT _,tv⟩,forall_nil⟩
theorem l27Laa:∀qq:Nat,(∀p1 v5 vb0_0 vb0_1 vb0_2 r,e27Laa qq p1 v5 vb0_0 vb0_1 vb0_2=some r->(∀j,Dl Tryz.prog 0 (inn (inn (rgt (lft (rgt (bod Tryz.f27)))))) (g27LaaE0 j p1 v5 vb0_0 vb0_1 vb0_2) (g27LaaS0 p1 v5 vb0_0 vb0_1 vb0_2) (frameQ Tryz.prog 0 (FinQ Tryz.prog 0 Tryz.f27 (tmA r) [] 0) [.blk 0,.seq (rgt (rgt (bod Tryz.f27)))]))):=by
 intro qq
 induction qq with
 |zero=>
  exact fun _ _ _ _ _ _ h=>nn h
 |succ qq ih=>
  intro p1 v5 vb0_0 vb0_1 vb0_2 r h
  rw[e27Laa]at h
  rcases spl h with⟨h1,h⟩|⟨h1,h⟩
  obtain⟨x2,h3,h⟩:=obind h
  obtain⟨r4,h5,h⟩:=obind h
  exact fun j=>lH 2 [] [0,1] [] [1,2,4,5] (oD (dT p1)<|oD (dT ([]:List Tm))<|oD (dT r4.sub)<|oC 1 [] (c26 h5)<|oA 1 (ix29 (o:=.no) h3)<|oB 1 h1 o0) (ih _ _ _ _ _ _ h)
  obtain rfl:=sj h
  exact fun j=>lF 2 [] (oD (dT vb0_2)<|oB 1 h1 o0)
theorem c27{qq p0 p1 r}(h:e27 qq p0 p1=some r):K27 p0 p1 r Ct:=by
 unfold e27 at h
 exact k27 (tH q27 0 [] [0,1] [] [1,2,4,5] (oD (dT p1)<|oD (dT ([]:List Tm))<|oD (dT p0.sub) o0) (l27Laa _ _ _ _ _ _ _ h))
def e10(qq:Nat)(p0:Tm)(p1:List Tm):Option (Tm):=
 e27 qq p0 p1>>=fun r1=>
 some r1
abbrev K10 (p0:Tm) (p1:List Tm) (r:Tm) (C:Cf):Prop:=C 10 [] [tmA p0,slv tmCells p1 .no] (tmA r) [] 0
theorem q10:Qf 10 Tryz.f10:=⟨Tryz.func10,by kernel_rfl⟩
theorem k10{p0 p1 r}(h:K10 p0 p1 r Ci):K10 p0 p1 r Ct:=⟨h,⟨⟨tv,tv,⟨tv,dT _⟩,tv⟩,⟨tv,dT _⟩,tv⟩,forall_nil,⟨tv,tv,dT _,tv⟩,forall_nil⟩
theorem c10{qq p0 p1 r}(h:e10 qq p0 p1=some r):K10 p0 p1 r Ct:=by
 unfold e10 at h
 obtain⟨r1,h2,h⟩:=obind h
 obtain rfl:=sj h
 exact k10 (tF q10 1 [] (oD (dT r1.sub)<|oC 1 [] (c27 h2) o0))
def e125(qq:Nat)(p0:Int):Option (Bool):=
 if decide (p0≥0)then
 if decide (p0≤1114111)then
 if decide (p0<55296)then
 some true
 else
 none
 else
 none
 else
 none
abbrev K125 (p0:Int) (r:Bool) (C:Cf):Prop:=C 125 [] [ai p0] (ab r) [] 0
theorem q125:Qf 125 Tryz.f125:=⟨Tryz.func125,by kernel_rfl⟩
theorem k125{p0 r}(h:K125 p0 r Ci):K125 p0 r Ct:=⟨h,⟨tv,tv⟩,forall_nil,tv,forall_nil⟩
theorem c125{qq p0 r}(h:e125 qq p0=some r):K125 p0 r Ct:=by
 unfold e125 at h
 obtain⟨h1,h⟩:=spT h
 have k:=oB 0 h1 o0
 obtain⟨h2,h⟩:=spT h
 have k:=oB 0 h2 k
 obtain⟨h3,h⟩:=spT h
 obtain rfl:=sj h
 exact k125 (tF q125 0 [] (oB 0 h3 k))
def e173(qq:Nat)(p0:Int):Option (Int):=
 if decide (p0≥65536)then
 none
 else
 if decide (p0≥2048)then
 none
 else
 if decide (p0≥128)then
 none
 else
 some 1
abbrev K173 (p0 r:Int) (C:Cf):Prop:=C 173 [] [ai p0] (ai r) [] 0
theorem q173:Qf 173 Tryz.f173:=⟨Tryz.func173,by kernel_rfl⟩
theorem k173{p0 r}(h:K173 p0 r Ci):K173 p0 r Ct:=⟨h,⟨tv,tv⟩,forall_nil,tv,forall_nil⟩
theorem c173{qq p0 r}(h:e173 qq p0=some r):K173 p0 r Ct:=by
 unfold e173 at h
 obtain⟨h1,h⟩:=splF h
 have k:=oB 0 h1 o0
 obtain⟨h2,h⟩:=splF h
 have k:=oB 0 h2 k
 obtain⟨h3,h⟩:=splF h
 obtain rfl:=sj h
 exact k173 (tF q173 0 [] (oB 0 h3 k))
def e196(qq:Nat)(p0:Int):Option (ByteArray×Int):=
 e125 qq p0>>=fun r1=>
 if r1 then
 e173 qq p0>>=fun r4=>
 if r4==1 then
 some ((gstr [(IntKind.u8.wrap (p0))]),0)
 else
 none
 else
 none
abbrev K196 (p0:Int) (r:ByteArray×Int) (C:Cf):Prop:=C 196 [] [ai p0] (.tup [at' r.1,ai r.2]) [] 0
theorem q196:Qf 196 Tryz.f196:=⟨Tryz.func196,by kernel_rfl⟩
theorem k196{p0 r}(h:K196 p0 r Ci):K196 p0 r Ct:=⟨h,⟨tv,tv⟩,forall_nil,⟨tv,tv,tv⟩,forall_nil⟩
theorem c196{qq p0 r}(h:e196 qq p0=some r):K196 p0 r Ct:=by
 unfold e196 at h
 obtain⟨r1,h2,h⟩:=obind h
 obtain⟨h3,h⟩:=spT h
 obtain⟨r4,h5,h⟩:=obind h
 have k:=oC 1 [] (c173 h5)<|oK 0 [] h3 (c125 h2) o0
 obtain⟨h6,h⟩:=spT h
 obtain rfl:=sj h
 exact k196 (tF q196 0 [] (oA 2 (cv274_9 [(IntKind.u8.wrap (p0))] (o:=.full))<|oB 0 h6 k))
def e156Lab:Nat->(List Int)->Int->(List Int)->Int->Option (List Int)
 |0,_,_,_,_=>none
 |qq+1,p0,v11,v3,v4=>
 if decide (v11<(List.length p0:Int))then
 gidx p0 v11>>=fun x2=>
 gapp 8 v3 [v4]>>=fun l4=>
 e196 qq x2>>=fun r6=>
 e156Lab qq p0 (w64 (v11+1)) l4 (w64 (v4+(r6.1.size:Int)))
 else
 some v3
def e156(qq:Nat)(p0:List Int):Option (List Int):=
 e156Lab qq p0 0 [] 0
def g156LabE0(j:Nat->Value)(p0:List Int)(v11:Int)(v3:List Int)(v4:Int):=sp j 30 0 [(3,slv intC v3 (.st 0 1)),(4,ai v4),(9,slv intC p0 .no),(10,ai (List.length p0:Int)),(11,ai v11)]
def g156LabS0(p0:List Int)(v11:Int)(v3:List Int)(v4:Int):LSt:=⟨[],0,[0],1,[]⟩
abbrev K156 (p0 r:List Int) (C:Cf):Prop:=C 156 [] [slv intC p0 .no] (.sl (flat intC r) (List.length r) .no) [] 0
theorem q156:Qf 156 Tryz.f156:=⟨Tryz.func156,by kernel_rfl⟩
theorem k156{p0 r}(h:K156 p0 r Ci):K156 p0 r Ct:=⟨h,⟨⟨tv,dI _⟩,tv⟩,forall_nil,dI _,forall_nil⟩
theorem l156Lab:∀qq:Nat,(∀p0 v11 v3 v4 r,e156Lab qq p0 v11 v3 v4=some r->(∀j,Dl Tryz.prog 0 (inn (inn (rgt (lft (rgt (rgt (rgt (bod Tryz.f156)))))))) (g156LabE0 j p0 v11 v3 v4) (g156LabS0 p0 v11 v3 v4) (frameQ Tryz.prog 0 (FinQ Tryz.prog 0 Tryz.f156 (.sl (flat intC r) (List.length r) .no) [] 0) [.blk 0,.seq (rgt (rgt (rgt (rgt (bod Tryz.f156)))))]))):=by
 intro qq
 induction qq with
 |zero=>
  exact fun _ _ _ _ _ h=>nn h
 |succ qq ih=>
  intro p0 v11 v3 v4 r h
  rw[e156Lab]at h
  rcases spl h with⟨h1,h⟩|⟨h1,h⟩
  obtain⟨x2,h3,h⟩:=obind h
  obtain⟨l4,h5,h⟩:=obind h
  obtain⟨r6,h7,h⟩:=obind h
  exact fun j=>lH 5 [] [] [1] [3,4,9,10,11] (oD (dI p0)<|oD (dI l4)<|oC 0 [] (c196 h7)<|oP 2 (apS32 h5 (by simp))<|oA 0 (ix32 (o:=.no) h3)<|oB 0 h1 o0) (ih _ _ _ _ _ h)
  obtain rfl:=sj h
  exact fun j=>lF 0 [] (oD (dI v3)<|oB 0 h1 o0)
theorem c156{qq p0 r}(h:e156 qq p0=some r):K156 p0 r Ct:=by
 unfold e156 at h
 exact k156 (tH q156 1 [(none,3,1)] [] [0] [3,4,9,10,11] (oD (dI p0)<|oD (dI ([]:List Int)) o0) (l156Lab _ _ _ _ _ _ h))
def e197(qq:Nat)(p0:Int):Option (Bool):=
 if p0==9 then
 none
 else
 if p0==10 then
 none
 else
 if p0==13 then
 none
 else
 some (p0==32)
abbrev K197 (p0:Int) (r:Bool) (C:Cf):Prop:=C 197 [] [ai p0] (ab r) [] 0
theorem q197:Qf 197 Tryz.f197:=⟨Tryz.func197,by kernel_rfl⟩
theorem k197{p0 r}(h:K197 p0 r Ci):K197 p0 r Ct:=⟨h,⟨tv,tv⟩,forall_nil,tv,forall_nil⟩
theorem c197{qq p0 r}(h:e197 qq p0=some r):K197 p0 r Ct:=by
 unfold e197 at h
 obtain⟨h1,h⟩:=splF h
 have k:=oB 0 h1 o0
 obtain⟨h2,h⟩:=splF h
 have k:=oB 0 h2 k
 obtain⟨h3,h⟩:=splF h
 obtain rfl:=sj h
 exact k197 (tF q197 1 [] (oB 0 h3 k))
def e198(qq:Nat)(q0_signs q0_at:List Int)(q0_i p1:Int):Option (Int):=
 if decide ((w64 (q0_i+p1))≥(List.length q0_signs:Int))then
 none
 else
 gidx q0_signs (w64 (q0_i+p1))>>=fun x2=>
 some x2
abbrev K198 (q0_signs q0_at:List Int) (q0_i p1 r:Int) (C:Cf):Prop:=C 198 [.cells [slv intC q0_signs .no,slv intC q0_at .no,ai q0_i]] [.mp 0 0,ai p1] (ai r) [.cells [slv intC q0_signs .no,slv intC q0_at .no,ai q0_i]] 0
theorem q198:Qf 198 Tryz.f198:=⟨Tryz.func198,by kernel_rfl⟩
theorem k198{q0_signs q0_at q0_i p1 r}(h:K198 q0_signs q0_at q0_i p1 r Ci):K198 q0_signs q0_at q0_i p1 r Ct:=⟨h,⟨(lz rfl),tv,tv⟩,(forall_cons ⟨⟨tv,dI _⟩,⟨tv,dI _⟩,tv,tv⟩ forall_nil),tv,(forall_cons ⟨dI _,dI _,tv,tv⟩ forall_nil)⟩
theorem c198{qq q0_signs q0_at q0_i p1 r}(h:e198 qq q0_signs q0_at q0_i p1=some r):K198 q0_signs q0_at q0_i p1 r Ct:=by
 unfold e198 at h
 obtain⟨h1,h⟩:=splF h
 obtain⟨x2,h3,h⟩:=obind h
 obtain rfl:=sj h
 exact k198 (tF q198 1 [0] (oD (dI q0_at)<|oD (dI q0_signs)<|oA 3 (ix32 (o:=.no) h3)<|oB 4 h1 o0))
def e199(qq:Nat)(q0_signs q0_at:List Int)(q0_i p1 p2:Int):Option (Bool):=
 e198 qq q0_signs q0_at q0_i 0>>=fun r1=>
 if r1==p1 then
 e198 qq q0_signs q0_at q0_i 1>>=fun r4=>
 some (r4==p2)
 else
 some false
abbrev K199 (q0_signs q0_at:List Int) (q0_i p1 p2:Int) (r:Bool) (C:Cf):Prop:=C 199 [.cells [slv intC q0_signs .no,slv intC q0_at .no,ai q0_i]] [.mp 0 0,ai p1,ai p2] (ab r) [.cells [slv intC q0_signs .no,slv intC q0_at .no,ai q0_i]] 0
theorem q199:Qf 199 Tryz.f199:=⟨Tryz.func199,by kernel_rfl⟩
theorem k199{q0_signs q0_at q0_i p1 p2 r}(h:K199 q0_signs q0_at q0_i p1 p2 r Ci):K199 q0_signs q0_at q0_i p1 p2 r Ct:=⟨h,⟨(lz rfl),tv,tv,tv⟩,(forall_cons ⟨⟨tv,dI _⟩,⟨tv,dI _⟩,tv,tv⟩ forall_nil),tv,(forall_cons ⟨dI _,dI _,tv,tv⟩ forall_nil)⟩
theorem c199{qq q0_signs q0_at q0_i p1 p2 r}(h:e199 qq q0_signs q0_at q0_i p1 p2=some r):K199 q0_signs q0_at q0_i p1 p2 r Ct:=by
 unfold e199 at h
 obtain⟨r1,h2,h⟩:=obind h
 have k:=oC 0 [0] (c198 h2) o0
 rcases spl h with⟨h3,h⟩|⟨h3,h⟩
 obtain⟨r4,h5,h⟩:=obind h
 obtain rfl:=sj h
 exact k199 (tF q199 1 [0] (oD (dI q0_at)<|oD (dI q0_signs)<|oC 0 [0] (c198 h5)<|oB 0 h3 k))
 obtain rfl:=sj h
 exact k199 (tF q199 0 [0] (oD (dI q0_at)<|oD (dI q0_signs)<|oB 0 h3 k))
def e157Lac:Nat->(List Int)->(List Int)->Int->Option (Int×Bool×Int)
 |0,_,_,_=>none
 |qq+1,q0_signs,q0_at,vb0_2=>
 if decide (vb0_2<(List.length q0_signs:Int))then
 e198 qq q0_signs q0_at vb0_2 0>>=fun r2=>
 e197 qq r2>>=fun r4=>
 if r4 then
 e157Lac qq q0_signs q0_at (w64 (vb0_2+1))
 else
 e199 qq q0_signs q0_at vb0_2 45 45>>=fun r7=>
 if r7 then
 none
 else
 e199 qq q0_signs q0_at vb0_2 123 45>>=fun r12=>
 if r12 then
 none
 else
 some (0,true,vb0_2)
 else
 some (0,true,vb0_2)
def e157(qq:Nat)(q0_signs q0_at:List Int)(q0_i:Int):Option (Int×Bool×Int):=
 e157Lac qq q0_signs q0_at q0_i
def g157LacE0(j:Nat->Value)(q0_signs q0_at:List Int)(vb0_2:Int):=sp j 48 0 [(0,.mp 0 0)]
def g157LacS0(q0_signs q0_at:List Int)(vb0_2:Int):LSt:=⟨[(0,.cells [slv intC q0_signs .no,slv intC q0_at .no,ai vb0_2])],1,[],0,[]⟩
abbrev K157 (q0_signs q0_at:List Int) (q0_i:Int) (r:Int×Bool×Int) (C:Cf):Prop:=C 157 [.cells [slv intC q0_signs .no,slv intC q0_at .no,ai q0_i]] [.mp 0 0] (.tup [ai r.1,ab r.2.1]) [.cells [slv intC q0_signs .no,slv intC q0_at .no,ai r.2.2]] 0
theorem q157:Qf 157 Tryz.f157:=⟨Tryz.func157,by kernel_rfl⟩
theorem k157{q0_signs q0_at q0_i r}(h:K157 q0_signs q0_at q0_i r Ci):K157 q0_signs q0_at q0_i r Ct:=⟨h,⟨(lz rfl),tv⟩,(forall_cons ⟨⟨tv,dI _⟩,⟨tv,dI _⟩,tv,tv⟩ forall_nil),⟨tv,tv,tv⟩,(forall_cons ⟨dI _,dI _,tv,tv⟩ forall_nil)⟩
theorem l157Lac:∀qq:Nat,(∀q0_signs q0_at vb0_2 r,e157Lac qq q0_signs q0_at vb0_2=some r->(∀j,Dl Tryz.prog 1 (inn (inn (lft (rgt (bod Tryz.f157))))) (g157LacE0 j q0_signs q0_at vb0_2) (g157LacS0 q0_signs q0_at vb0_2) (frameQ Tryz.prog 1 (FinQ Tryz.prog 1 Tryz.f157 (.tup [ai r.1,ab r.2.1]) [.cells [slv intC q0_signs .no,slv intC q0_at .no,ai r.2.2]] 0) [.blk 0,.seq (rgt (rgt (bod Tryz.f157)))]))):=by
 intro qq
 induction qq with
 |zero=>
  exact fun _ _ _ _ h=>nn h
 |succ qq ih=>
  intro q0_signs q0_at vb0_2 r h
  rw[e157Lac]at h
  rcases spl h with⟨h1,h⟩|⟨h1,h⟩
  obtain⟨r2,h3,h⟩:=obind h
  obtain⟨r4,h5,h⟩:=obind h
  have k:=oC 0 [0] (c198 h3)<|oB 3 h1 o0
  rcases spl h with⟨h6,h⟩|⟨h6,h⟩
  exact fun j=>lH 3 [] [0] [] [0] (oD (dI q0_at)<|oD (dI q0_signs)<|oK 0 [] h6 (c197 h5) k) (ih _ _ _ _ h)
  obtain⟨r7,h8,h⟩:=obind h
  have k:=oK 0 [] h6 (c197 h5) k
  obtain⟨h9,h⟩:=splF h
  obtain⟨r12,h13,h⟩:=obind h
  have k:=oK 0 [0] h9 (c199 h8) k
  obtain⟨h14,h⟩:=splF h
  obtain rfl:=sj h
  exact fun j=>lF 0 [0] (oD (dI q0_at)<|oD (dI q0_signs)<|oK 0 [0] h14 (c199 h13) k)
  obtain rfl:=sj h
  exact fun j=>lF 0 [0] (oD (dI q0_at)<|oD (dI q0_signs)<|oB 3 h1 o0)
theorem c157{qq q0_signs q0_at q0_i r}(h:e157 qq q0_signs q0_at q0_i=some r):K157 q0_signs q0_at q0_i r Ct:=by
 unfold e157 at h
 exact k157 (tH q157 0 [] [0] [] [0] (oD (dI q0_at)<|oD (dI q0_signs) o0) (l157Lac _ _ _ _ _ h))
def e124(qq:Nat)(p0:Int):Option (Bool):=
 if decide (p0≥48)then
 some (decide (p0≤57))
 else
 some false
abbrev K124 (p0:Int) (r:Bool) (C:Cf):Prop:=C 124 [] [ai p0] (ab r) [] 0
theorem q124:Qf 124 Tryz.f124:=⟨Tryz.func124,by kernel_rfl⟩
theorem k124{p0 r}(h:K124 p0 r Ci):K124 p0 r Ct:=⟨h,⟨tv,tv⟩,forall_nil,tv,forall_nil⟩
theorem c124{qq p0 r}(h:e124 qq p0=some r):K124 p0 r Ct:=by
 unfold e124 at h
 rcases spl h with⟨h1,h⟩|⟨h1,h⟩
 obtain rfl:=sj h
 exact k124 (tF q124 1 [] (oB 0 h1 o0))
 obtain rfl:=sj h
 exact k124 (tF q124 0 [] (oB 0 h1 o0))
def e81(qq:Nat)(p0:Int):Option (Bool):=
 if decide (p0<128)then
 if decide (p0≥97)then
 if decide (p0≤122)then
 some true
 else
 if decide (p0≥65)then
 some (decide (p0≤90))
 else
 none
 else
 if decide (p0≥65)then
 some (decide (p0≤90))
 else
 some false
 else
 none
abbrev K81 (p0:Int) (r:Bool) (C:Cf):Prop:=C 81 [] [ai p0] (ab r) [] 0
theorem q81:Qf 81 Tryz.f81:=⟨Tryz.func81,by kernel_rfl⟩
theorem k81{p0 r}(h:K81 p0 r Ci):K81 p0 r Ct:=⟨h,⟨tv,tv⟩,forall_nil,tv,forall_nil⟩
theorem c81{qq p0 r}(h:e81 qq p0=some r):K81 p0 r Ct:=by
 unfold e81 at h
 obtain⟨h1,h⟩:=spT h
 have k:=oB 0 h1 o0
 rcases spl h with⟨h2,h⟩|⟨h2,h⟩
 have k:=oB 0 h2 k
 rcases spl h with⟨h3,h⟩|⟨h3,h⟩
 obtain rfl:=sj h
 exact k81 (tF q81 0 [] (oB 0 h3 k))
 have k:=oB 0 h3 k
 obtain⟨h4,h⟩:=spT h
 obtain rfl:=sj h
 exact k81 (tF q81 1 [] (oB 0 h4 k))
 have k:=oB 0 h2 k
 rcases spl h with⟨h5,h⟩|⟨h5,h⟩
 obtain rfl:=sj h
 exact k81 (tF q81 1 [] (oB 0 h5 k))
 obtain rfl:=sj h
 exact k81 (tF q81 0 [] (oB 0 h5 k))
def e203(qq:Nat)(p0:Int):Option (Bool):=
 e81 qq p0>>=fun r1=>
 if r1 then
 some true
 else
 e124 qq p0>>=fun r4=>
 if r4 then
 none
 else
 if p0==95 then
 none
 else
 some (p0==39)
abbrev K203 (p0:Int) (r:Bool) (C:Cf):Prop:=C 203 [] [ai p0] (ab r) [] 0
theorem q203:Qf 203 Tryz.f203:=⟨Tryz.func203,by kernel_rfl⟩
theorem k203{p0 r}(h:K203 p0 r Ci):K203 p0 r Ct:=⟨h,⟨tv,tv⟩,forall_nil,tv,forall_nil⟩
theorem c203{qq p0 r}(h:e203 qq p0=some r):K203 p0 r Ct:=by
 unfold e203 at h
 obtain⟨r1,h2,h⟩:=obind h
 rcases spl h with⟨h3,h⟩|⟨h3,h⟩
 obtain rfl:=sj h
 exact k203 (tF q203 0 [] (oK 0 [] h3 (c81 h2) o0))
 obtain⟨r4,h5,h⟩:=obind h
 have k:=oK 0 [] h3 (c81 h2) o0
 obtain⟨h6,h⟩:=splF h
 have k:=oK 0 [] h6 (c124 h5) k
 obtain⟨h7,h⟩:=splF h
 obtain rfl:=sj h
 exact k203 (tF q203 1 [] (oB 0 h7 k))
def e235Lad:Nat->(List Int)->Int->(List U8)->Option (ByteArray×Int)
 |0,_,_,_=>none
 |qq+1,p0,v23,v6=>
 if decide (v23<(List.length p0:Int))then
 gidx p0 v23>>=fun x8=>
 e196 qq x8>>=fun r10=>
 if decide ((w64 ((List.length v6:Int)+(r10.1.size:Int)))>65535)then
 none
 else
 gapp 1 v6 (gbs r10.1)>>=fun l13=>
 e235Lad qq p0 (w64 (v23+1)) l13
 else
 some ((gstr v6),0)
def e235Lae:Nat->(List Int)->Int->Option (ByteArray×Int)
 |0,_,_=>none
 |qq+1,p0,v13=>
 if decide (v13<(List.length p0:Int))then
 gidx p0 v13>>=fun x2=>
 e125 qq x2>>=fun r4=>
 if r4 then
 e235Lae qq p0 (w64 (v13+1))
 else
 none
 else
 e235Lad qq p0 0 []
def e235(qq:Nat)(p0:List Int):Option (ByteArray×Int):=
 e235Lae qq p0 0
def g235LaeE0(j:Nat->Value)(p0:List Int)(v13:Int):=sp j 44 0 [(0,slv intC p0 .no),(11,slv intC p0 .no),(12,ai (List.length p0:Int)),(13,ai v13)]
def g235LaeS0(p0:List Int)(v13:Int):LSt:=⟨[],0,[],0,[]⟩
def g235LadE0(j:Nat->Value)(p0:List Int)(v23:Int)(v6:List U8):=sp j 44 0 [(6,slv u8C v6 (.st 0 1)),(21,slv intC p0 .no),(22,ai (List.length p0:Int)),(23,ai v23)]
def g235LadS0(p0:List Int)(v23:Int)(v6:List U8):LSt:=⟨[],0,[0],1,[]⟩
abbrev K235 (p0:List Int) (r:ByteArray×Int) (C:Cf):Prop:=C 235 [] [slv intC p0 .no] (.tup [at' r.1,ai r.2]) [] 0
theorem q235:Qf 235 Tryz.f235:=⟨Tryz.func235,by kernel_rfl⟩
theorem k235{p0 r}(h:K235 p0 r Ci):K235 p0 r Ct:=⟨h,⟨⟨tv,dI _⟩,tv⟩,forall_nil,⟨tv,tv,tv⟩,forall_nil⟩
theorem l235Lad:∀qq:Nat,(∀p0 v23 v6 r,e235Lad qq p0 v23 v6=some r->(∀j,Dl Tryz.prog 0 (inn (inn (rgt (lft (rgt (rgt (rgt (bod Tryz.f235)))))))) (g235LadE0 j p0 v23 v6) (g235LadS0 p0 v23 v6) (frameQ Tryz.prog 0 (FinQ Tryz.prog 0 Tryz.f235 (.tup [at' r.1,ai r.2]) [] 0) [.blk 2,.seq (rgt (rgt (rgt (rgt (bod Tryz.f235)))))]))):=by
 intro qq
 induction qq with
 |zero=>
  exact fun _ _ _ _ h=>nn h
 |succ qq ih=>
  intro p0 v23 v6 r h
  rw[e235Lad]at h
  rcases spl h with⟨h7,h⟩|⟨h7,h⟩
  obtain⟨x8,h9,h⟩:=obind h
  obtain⟨r10,h11,h⟩:=obind h
  have k:=oC 1 [] (c196 h11)<|oA 0 (ix32 (o:=.no) h9)<|oB 0 h7 o0
  obtain⟨h12,h⟩:=splF h
  obtain⟨l13,h14,h⟩:=obind h
  have k:=oB 5 h12 k
  by_cases h15:List.length (gbs r10.1)=0
  exact fun j=>lH 1 [] [] [0] [6,21,22,23] (oD (dI p0)<|oD (dU l13)<|oPs 0 (apTN274_9 h14 h15) k) (ih _ _ _ _ h)
  exact fun j=>lH 1 [] [] [1] [6,21,22,23] (oD (dI p0)<|oD (dU l13)<|oPs 0 (apT274_9 h14 h15) k) (ih _ _ _ _ h)
  obtain rfl:=sj h
  exact fun j=>lF 0 [] (oA 0 (cv274_9 v6 (o:=(.st 0 1)))<|oB 0 h7 o0)
theorem l235Lae:∀qq:Nat,(∀p0 v13 r,e235Lae qq p0 v13=some r->(∀j,Dl Tryz.prog 0 (inn (inn (rgt (lft (rgt (bod Tryz.f235)))))) (g235LaeE0 j p0 v13) (g235LaeS0 p0 v13) (frameQ Tryz.prog 0 (FinQ Tryz.prog 0 Tryz.f235 (.tup [at' r.1,ai r.2]) [] 0) [.blk 0,.seq (rgt (rgt (bod Tryz.f235)))]))):=by
 intro qq
 induction qq with
 |zero=>
  exact fun _ _ _ h=>nn h
 |succ qq ih=>
  intro p0 v13 r h
  rw[e235Lae]at h
  rcases spl h with⟨h1,h⟩|⟨h1,h⟩
  obtain⟨x2,h3,h⟩:=obind h
  obtain⟨r4,h5,h⟩:=obind h
  have k:=oA 0 (ix32 (o:=.no) h3)<|oB 0 h1 o0
  obtain⟨h6,h⟩:=spT h
  exact fun j=>lH 2 [] [] [] [0,11,12,13] (oD (dI p0)<|oD (dI p0)<|oK 1 [] h6 (c125 h5) k) (ih _ _ _ h)
  exact fun j=>lH 1 [(none,6,1)] [] [0] [6,21,22,23] (oD (dI p0)<|oD (dU ([]:List U8))<|oB 0 h1 o0) (l235Lad _ _ _ _ _ h)
theorem c235{qq p0 r}(h:e235 qq p0=some r):K235 p0 r Ct:=by
 unfold e235 at h
 exact k235 (tH q235 1 [] [] [] [0,11,12,13] (oD (dI p0)<|oD (dI p0) o0) (l235Lae _ _ _ _ h))
def e202vaafLag:Nat->(List Int)->(List Int)->Int->Int->Option (ByteArray×Int)
 |0,_,_,_,_=>none
 |qq+1,q0,q1,q2,vb0_2=>
 if decide (vb0_2<(List.length q0:Int))then
 e198 qq q0 q1 vb0_2 0>>=fun r2=>
 e203 qq r2>>=fun r4=>
 if r4 then
 e202vaafLag qq q0 q1 q2 (w64 (vb0_2+1))
 else
 gsl q0 q2 vb0_2>>=fun x7=>
 e235 qq x7>>=fun r9=>
 some (r9.1,vb0_2)
 else
 none
def e202vaaf(qq:Nat)(q0 q1:List Int)(q2:Int):Option (ByteArray×Int):=
 e202vaafLag qq q0 q1 q2 q2
def g202vaafLagE0(j:Nat->Value)(q0 q1:List Int)(q2 vb0_2:Int):=sp j 50 0 [(0,.mp 0 0),(1,.clo 203 [] []),(5,ai q2)]
def g202vaafLagS0(q0 q1:List Int)(q2 vb0_2:Int):LSt:=⟨[(0,.cells [slv intC q0 .no,slv intC q1 .no,ai vb0_2])],1,[],0,[]⟩
abbrev K202vaaf (q0 q1:List Int) (q2:Int) (r:ByteArray×Int) (C:Cf):Prop:=C 202 [.cells [slv intC q0 .no,slv intC q1 .no,ai q2]] [.mp 0 0,.clo 203 [] []] (at' r.1) [.cells [slv intC q0 .no,slv intC q1 .no,ai r.2]] 0
theorem q202vaaf:Qf 202 Tryz.f202:=⟨Tryz.func202,by kernel_rfl⟩
theorem k202vaaf{q0 q1 q2 r}(h:K202vaaf q0 q1 q2 r Ci):K202vaaf q0 q1 q2 r Ct:=⟨h,⟨(lz rfl),⟨tv,tv⟩,tv⟩,(forall_cons ⟨⟨tv,dI _⟩,⟨tv,dI _⟩,tv,tv⟩ forall_nil),tv,(forall_cons ⟨dI _,dI _,tv,tv⟩ forall_nil)⟩
theorem l202vaafLag:∀qq:Nat,(∀q0 q1 q2 vb0_2 r,e202vaafLag qq q0 q1 q2 vb0_2=some r->(∀j,Dl Tryz.prog 1 (inn (inn (lft (rgt (rgt (bod Tryz.f202)))))) (g202vaafLagE0 j q0 q1 q2 vb0_2) (g202vaafLagS0 q0 q1 q2 vb0_2) (frameQ Tryz.prog 1 (FinQ Tryz.prog 1 Tryz.f202 (at' r.1) [.cells [slv intC q0 .no,slv intC q1 .no,ai r.2]] 0) [.blk 0,.seq (rgt (rgt (rgt (bod Tryz.f202))))]))):=by
 intro qq
 induction qq with
 |zero=>
  exact fun _ _ _ _ _ h=>nn h
 |succ qq ih=>
  intro q0 q1 q2 vb0_2 r h
  rw[e202vaafLag]at h
  obtain⟨h1,h⟩:=spT h
  obtain⟨r2,h3,h⟩:=obind h
  obtain⟨r4,h5,h⟩:=obind h
  have k:=oC 0 [0] (c198 h3)<|oB 3 h1 o0
  rcases spl h with⟨h6,h⟩|⟨h6,h⟩
  exact fun j=>lH 3 [] [0] [] [0,1,5] (oD (dI q1)<|oD (dI q0)<|oK 0 [] h6 (c203 h5) k) (ih _ _ _ _ _ h)
  obtain⟨x7,h8,h⟩:=obind h
  obtain⟨r9,h10,h⟩:=obind h
  obtain rfl:=sj h
  exact fun j=>lF 2 [0] (oD (dI q1)<|oD (dI q0)<|oC 0 [] (c235 h10)<|oA 2 (sl32 h8)<|oK 0 [] h6 (c203 h5) k)
theorem c202vaaf{qq q0 q1 q2 r}(h:e202vaaf qq q0 q1 q2=some r):K202vaaf q0 q1 q2 r Ct:=by
 unfold e202vaaf at h
 exact k202vaaf (tH q202vaaf 1 [] [0] [] [0,1,5] (oD (dI q1)<|oD (dI q0) o0) (l202vaafLag _ _ _ _ _ _ h))
def e205(qq:Nat)(q0_signs q0_at:List Int)(q0_i:Int):Option (ByteArray×Int):=
 e198 qq q0_signs q0_at q0_i 0>>=fun r1=>
 if r1==40 then
 none
 else
 if r1==41 then
 none
 else
 if r1==123 then
 some ((gstr [(IntKind.u8.wrap (r1))]),1)
 else
 if r1==125 then
 some ((gstr [(IntKind.u8.wrap (r1))]),1)
 else
 if r1==58 then
 some ((gstr [(IntKind.u8.wrap (r1))]),1)
 else
 if r1==61 then
 none
 else
 if r1==46 then
 none
 else
 if r1==44 then
 none
 else
 if r1==59 then
 some ((gstr [(IntKind.u8.wrap (r1))]),1)
 else
 if r1==124 then
 none
 else
 if r1==92 then
 none
 else
 if r1==955 then
 none
 else
 if r1==8594 then
 none
 else
 e199 qq q0_signs q0_at q0_i 45 62>>=fun r16=>
 if r16 then
 some ((⟨#[45,62]⟩:ByteArray),2)
 else
 none
abbrev K205 (q0_signs q0_at:List Int) (q0_i:Int) (r:ByteArray×Int) (C:Cf):Prop:=C 205 [.cells [slv intC q0_signs .no,slv intC q0_at .no,ai q0_i]] [.mp 0 0] (.tup [at' r.1,ai r.2]) [.cells [slv intC q0_signs .no,slv intC q0_at .no,ai q0_i]] 0
theorem q205:Qf 205 Tryz.f205:=⟨Tryz.func205,by kernel_rfl⟩
theorem k205{q0_signs q0_at q0_i r}(h:K205 q0_signs q0_at q0_i r Ci):K205 q0_signs q0_at q0_i r Ct:=⟨h,⟨(lz rfl),tv⟩,(forall_cons ⟨⟨tv,dI _⟩,⟨tv,dI _⟩,tv,tv⟩ forall_nil),⟨tv,tv,tv⟩,(forall_cons ⟨dI _,dI _,tv,tv⟩ forall_nil)⟩
theorem c205{qq q0_signs q0_at q0_i r}(h:e205 qq q0_signs q0_at q0_i=some r):K205 q0_signs q0_at q0_i r Ct:=by
 unfold e205 at h
 obtain⟨r1,h2,h⟩:=obind h
 have k:=oC 0 [0] (c198 h2) o0
 obtain⟨h3,h⟩:=splF h
 have k:=oB 0 h3 k
 obtain⟨h4,h⟩:=splF h
 have k:=oB 0 h4 k
 rcases spl h with⟨h5,h⟩|⟨h5,h⟩
 obtain rfl:=sj h
 exact k205 (tF q205 0 [0] (oD (dI q0_at)<|oD (dI q0_signs)<|oA 2 (cv274_9 [(IntKind.u8.wrap (r1))] (o:=.full))<|oB 0 h5 k))
 have k:=oB 0 h5 k
 rcases spl h with⟨h6,h⟩|⟨h6,h⟩
 obtain rfl:=sj h
 exact k205 (tF q205 0 [0] (oD (dI q0_at)<|oD (dI q0_signs)<|oA 2 (cv274_9 [(IntKind.u8.wrap (r1))] (o:=.full))<|oB 0 h6 k))
 have k:=oB 0 h6 k
 rcases spl h with⟨h7,h⟩|⟨h7,h⟩
 obtain rfl:=sj h
 exact k205 (tF q205 0 [0] (oD (dI q0_at)<|oD (dI q0_signs)<|oA 2 (cv274_9 [(IntKind.u8.wrap (r1))] (o:=.full))<|oB 0 h7 k))
 have k:=oB 0 h7 k
 obtain⟨h8,h⟩:=splF h
 have k:=oB 0 h8 k
 obtain⟨h9,h⟩:=splF h
 have k:=oB 0 h9 k
 obtain⟨h10,h⟩:=splF h
 have k:=oB 0 h10 k
 rcases spl h with⟨h11,h⟩|⟨h11,h⟩
 obtain rfl:=sj h
 exact k205 (tF q205 0 [0] (oD (dI q0_at)<|oD (dI q0_signs)<|oA 2 (cv274_9 [(IntKind.u8.wrap (r1))] (o:=.full))<|oB 0 h11 k))
 have k:=oB 0 h11 k
 obtain⟨h12,h⟩:=splF h
 have k:=oB 0 h12 k
 obtain⟨h13,h⟩:=splF h
 have k:=oB 0 h13 k
 obtain⟨h14,h⟩:=splF h
 have k:=oB 0 h14 k
 obtain⟨h15,h⟩:=splF h
 obtain⟨r16,h17,h⟩:=obind h
 have k:=oB 0 h15 k
 obtain⟨h18,h⟩:=spT h
 obtain rfl:=sj h
 exact k205 (tF q205 0 [0] (oD (dI q0_at)<|oD (dI q0_signs)<|oK 0 [0] h18 (c199 h17) k))
def e172(qq:Nat)(p0:U8):Option (Int×Int):=
 if decide (p0<128)then
 some (1,(w64 (p0)))
 else
 none
abbrev K172 (p0:U8) (r:Int×Int) (C:Cf):Prop:=C 172 [] [.val (.int .u8 p0)] (.tup [ai r.1,ai r.2]) [] 0
theorem q172:Qf 172 Tryz.f172:=⟨Tryz.func172,by kernel_rfl⟩
theorem k172{p0 r}(h:K172 p0 r Ci):K172 p0 r Ct:=⟨h,⟨tv,tv⟩,forall_nil,⟨tv,tv,tv⟩,forall_nil⟩
theorem c172{qq p0 r}(h:e172 qq p0=some r):K172 p0 r Ct:=by
 unfold e172 at h
 obtain⟨h1,h⟩:=spT h
 obtain rfl:=sj h
 exact k172 (tF q172 1 [] (oB 0 h1 o0))
def e123Lah(qq:Nat)(p0:ByteArray)(p1:Int)(r5:Int×Int)(v8 v9:Int):Option (Int×Int×Int):=
 if decide (v9<r5.1)then
 none
 else
 e125 qq v8>>=fun r13=>
 if r13 then
 e173 qq v8>>=fun r16=>
 if r16 != r5.1 then
 none
 else
 some (v8,r5.1,0)
 else
 none
def e123(qq:Nat)(p0:ByteArray)(p1:Int):Option (Int×Int×Int):=
 if decide (p1<0)then
 none
 else
 if decide (p1≥(p0.size:Int))then
 none
 else
 gbyte p0 p1>>=fun x3=>
 e172 qq x3>>=fun r5=>
 if r5.1==0 then
 none
 else
 if decide (r5.1>(w64 ((p0.size:Int)-p1)))then
 none
 else
 e123Lah qq p0 p1 r5 r5.2 1
def g123LahE0(j:Nat->Value)(p0:ByteArray)(p1:Int)(r5:Int×Int)(v8 v9:Int):=sp j 66 0 [(0,at' p0),(1,ai p1),(7,ai r5.1),(8,ai v8),(9,ai v9)]
def g123LahS0(p0:ByteArray)(p1:Int)(r5:Int×Int)(v8 v9:Int):LSt:=⟨[],0,[],0,[]⟩
abbrev K123 (p0:ByteArray) (p1:Int) (r:Int×Int×Int) (C:Cf):Prop:=C 123 [] [at' p0,ai p1] (.tup [ai r.1,ai r.2.1,ai r.2.2]) [] 0
theorem q123:Qf 123 Tryz.f123:=⟨Tryz.func123,by kernel_rfl⟩
theorem k123{p0 p1 r}(h:K123 p0 p1 r Ci):K123 p0 p1 r Ct:=⟨h,⟨tv,tv,tv⟩,forall_nil,⟨tv,tv,tv,tv⟩,forall_nil⟩
theorem l123Lah(qq p0 p1 r5 v8 v9 r)(h:e123Lah qq p0 p1 r5 v8 v9=some r):(∀j,Dl Tryz.prog 0 (inn (inn (rgt (lft (rgt (rgt (rgt (rgt (bod Tryz.f123))))))))) (g123LahE0 j p0 p1 r5 v8 v9) (g123LahS0 p0 p1 r5 v8 v9) (frameQ Tryz.prog 0 (FinQ Tryz.prog 0 Tryz.f123 (.tup [ai r.1,ai r.2.1,ai r.2.2]) [] 0) [.blk 0,.seq (rgt (rgt (rgt (rgt (rgt (bod Tryz.f123))))))])):=by
 unfold e123Lah at h
 obtain⟨h9,h⟩:=splF h
 obtain⟨r13,h14,h⟩:=obind h
 have k:=oB 0 h9 o0
 obtain⟨h15,h⟩:=spT h
 obtain⟨r16,h17,h⟩:=obind h
 have k:=oC 1 [] (c173 h17)<|oK 0 [] h15 (c125 h14) k
 obtain⟨h18,h⟩:=splF h
 obtain rfl:=sj h
 exact fun j=>lF 0 [] (oB 0 h18 k)
theorem c123{qq p0 p1 r}(h:e123 qq p0 p1=some r):K123 p0 p1 r Ct:=by
 unfold e123 at h
 obtain⟨h1,h⟩:=splF h
 have k:=oB 0 h1 o0
 obtain⟨h2,h⟩:=splF h
 obtain⟨x3,h4,h⟩:=obind h
 obtain⟨r5,h6,h⟩:=obind h
 have k:=oC 0 [] (c172 h6)<|oA 0 (ixStr9 h4)<|oB 1 h2 k
 obtain⟨h7,h⟩:=splF h
 have k:=oB 2 h7 k
 obtain⟨h8,h⟩:=splF h
 exact k123 (tH q123 0 [] [] [] [0,1,7,8,9] (oB 2 h8 k) (l123Lah qq _ _ _ _ _ _ h))
def e78Lai:Nat->ByteArray->(List Int)->Int->Option (List Int×Int×Int)
 |0,_,_,_=>none
 |qq+1,p0,v5,v6=>
 if decide (v6<(p0.size:Int))then
 e123 qq p0 v6>>=fun r3=>
 if r3.2.2 != 0 then
 none
 else
 gapp 8 v5 [r3.1]>>=fun l6=>
 e78Lai qq p0 l6 (w64 (v6+r3.2.1))
 else
 some (v5,(p0.size:Int),0)
def e78(qq:Nat)(p0:ByteArray):Option (List Int×Int×Int):=
 if decide ((p0.size:Int)>65535)then
 none
 else
 e78Lai qq p0 [] 0
def g78LaiE0(j:Nat->Value)(p0:ByteArray)(v5:List Int)(v6:Int):=sp j 38 0 [(0,at' p0),(5,slv intC v5 (.st 0 1)),(6,ai v6)]
def g78LaiS0(p0:ByteArray)(v5:List Int)(v6:Int):LSt:=⟨[],0,[0],1,[]⟩
abbrev K78 (p0:ByteArray) (r:List Int×Int×Int) (C:Cf):Prop:=C 78 [] [at' p0] (.tup [.sl (flat intC r.1) (List.length r.1) .no,ai r.2.1,ai r.2.2]) [] 0
theorem q78:Qf 78 Tryz.f78:=⟨Tryz.func78,by kernel_rfl⟩
theorem k78{p0 r}(h:K78 p0 r Ci):K78 p0 r Ct:=⟨h,⟨tv,tv⟩,forall_nil,⟨dI _,tv,tv,tv⟩,forall_nil⟩
theorem l78Lai:∀qq:Nat,(∀p0 v5 v6 r,e78Lai qq p0 v5 v6=some r->(∀j,Dl Tryz.prog 0 (inn (inn (rgt (lft (rgt (rgt (rgt (bod Tryz.f78)))))))) (g78LaiE0 j p0 v5 v6) (g78LaiS0 p0 v5 v6) (frameQ Tryz.prog 0 (FinQ Tryz.prog 0 Tryz.f78 (.tup [.sl (flat intC r.1) (List.length r.1) .no,ai r.2.1,ai r.2.2]) [] 0) [.blk 0,.seq (rgt (rgt (rgt (rgt (bod Tryz.f78)))))]))):=by
 intro qq
 induction qq with
 |zero=>
  exact fun _ _ _ _ h=>nn h
 |succ qq ih=>
  intro p0 v5 v6 r h
  rw[e78Lai]at h
  rcases spl h with⟨h2,h⟩|⟨h2,h⟩
  obtain⟨r3,h4,h⟩:=obind h
  have k:=oC 0 [] (c123 h4)<|oB 1 h2 o0
  obtain⟨h5,h⟩:=splF h
  obtain⟨l6,h7,h⟩:=obind h
  exact fun j=>lH 1 [] [] [1] [0,5,6] (oD (dI l6)<|oP 1 (apS32 h7 (by simp))<|oB 3 h5 k) (ih _ _ _ _ h)
  obtain rfl:=sj h
  exact fun j=>lF 1 [] (oD (dI v5)<|oB 1 h2 o0)
theorem c78{qq p0 r}(h:e78 qq p0=some r):K78 p0 r Ct:=by
 unfold e78 at h
 obtain⟨h1,h⟩:=splF h
 exact k78 (tH q78 0 [(none,5,1)] [] [0] [0,5,6] (oD (dI ([]:List Int))<|oB 1 h1 o0) (l78Lai _ _ _ _ _ h))
def e79(qq:Nat)(p0:ByteArray):Option (Bool):=
 if p0.toList==(⟨#[100,97,116,97]⟩:ByteArray).toList then
 some true
 else
 if p0.toList==(⟨#[114,101,99,111,114,100]⟩:ByteArray).toList then
 none
 else
 if p0.toList==(⟨#[100,101,102]⟩:ByteArray).toList then
 none
 else
 if p0.toList==(⟨#[83,101,116]⟩:ByteArray).toList then
 some true
 else
 some false
abbrev K79 (p0:ByteArray) (r:Bool) (C:Cf):Prop:=C 79 [] [at' p0] (ab r) [] 0
theorem q79:Qf 79 Tryz.f79:=⟨Tryz.func79,by kernel_rfl⟩
theorem k79{p0 r}(h:K79 p0 r Ci):K79 p0 r Ct:=⟨h,⟨tv,tv⟩,forall_nil,tv,forall_nil⟩
theorem c79{qq p0 r}(h:e79 qq p0=some r):K79 p0 r Ct:=by
 unfold e79 at h
 rcases spl h with⟨h1,h⟩|⟨h1,h⟩
 obtain rfl:=sj h
 exact k79 (tF q79 0 [] (oB 0 h1 o0))
 have k:=oB 0 h1 o0
 obtain⟨h2,h⟩:=splF h
 have k:=oB 0 h2 k
 obtain⟨h3,h⟩:=splF h
 have k:=oB 0 h3 k
 rcases spl h with⟨h4,h⟩|⟨h4,h⟩
 obtain rfl:=sj h
 exact k79 (tF q79 0 [] (oB 0 h4 k))
 obtain rfl:=sj h
 exact k79 (tF q79 0 [] (oB 0 h4 k))
def e80(qq:Nat)(p0:Int):Option (Bool):=
 e81 qq p0>>=fun r1=>
 if r1 then
 some true
 else
 none
abbrev K80 (p0:Int) (r:Bool) (C:Cf):Prop:=C 80 [] [ai p0] (ab r) [] 0
theorem q80:Qf 80 Tryz.f80:=⟨Tryz.func80,by kernel_rfl⟩
theorem k80{p0 r}(h:K80 p0 r Ci):K80 p0 r Ct:=⟨h,⟨tv,tv⟩,forall_nil,tv,forall_nil⟩
theorem c80{qq p0 r}(h:e80 qq p0=some r):K80 p0 r Ct:=by
 unfold e80 at h
 obtain⟨r1,h2,h⟩:=obind h
 obtain⟨h3,h⟩:=spT h
 obtain rfl:=sj h
 exact k80 (tF q80 0 [] (oK 0 [] h3 (c81 h2) o0))
def e51Laj:Nat->(List Int×Int×Int)->Int->Option (Bool)
 |0,_,_=>none
 |qq+1,r1,v32=>
 if decide (v32<(List.length r1.1:Int))then
 gidx r1.1 v32>>=fun x10=>
 e80 qq x10>>=fun r12=>
 if r12 then
 e51Laj qq r1 (w64 (v32+1))
 else
 none
 else
 gidx r1.1 0>>=fun x15=>
 e81 qq x15>>=fun r17=>
 if r17 then
 some true
 else
 none
def e51(qq:Nat)(p0:ByteArray):Option (Bool):=
 e78 qq p0>>=fun r1=>
 if r1.2.2 != 0 then
 none
 else
 if (List.length r1.1:Int)==0 then
 none
 else
 if decide ((p0.size:Int)>40)then
 none
 else
 e79 qq p0>>=fun r6=>
 if r6 then
 none
 else
 e51Laj qq r1 0
def g51LajE0(j:Nat->Value)(r1:List Int×Int×Int)(v32:Int):=sp j 55 0 [(3,slv intC r1.1 .no),(30,slv intC r1.1 .no),(31,ai (List.length r1.1:Int)),(32,ai v32)]
def g51LajS0(r1:List Int×Int×Int)(v32:Int):LSt:=⟨[],0,[],0,[]⟩
abbrev K51 (p0:ByteArray) (r:Bool) (C:Cf):Prop:=C 51 [] [at' p0] (ab r) [] 0
theorem q51:Qf 51 Tryz.f51:=⟨Tryz.func51,by kernel_rfl⟩
theorem k51{p0 r}(h:K51 p0 r Ci):K51 p0 r Ct:=⟨h,⟨tv,tv⟩,forall_nil,tv,forall_nil⟩
theorem l51Laj:∀qq:Nat,(∀r1 v32 r,e51Laj qq r1 v32=some r->(∀j,Dl Tryz.prog 0 (inn (inn (rgt (lft (rgt (rgt (rgt (bod Tryz.f51)))))))) (g51LajE0 j r1 v32) (g51LajS0 r1 v32) (frameQ Tryz.prog 0 (FinQ Tryz.prog 0 Tryz.f51 (ab r) [] 0) [.blk 0,.seq (rgt (rgt (rgt (rgt (bod Tryz.f51)))))]))):=by
 intro qq
 induction qq with
 |zero=>
  exact fun _ _ _ h=>nn h
 |succ qq ih=>
  intro r1 v32 r h
  rw[e51Laj]at h
  rcases spl h with⟨h9,h⟩|⟨h9,h⟩
  obtain⟨x10,h11,h⟩:=obind h
  obtain⟨r12,h13,h⟩:=obind h
  have k:=oA 0 (ix32 (o:=.no) h11)<|oB 0 h9 o0
  obtain⟨h14,h⟩:=spT h
  exact fun j=>lH 2 [] [] [] [3,30,31,32] (oD (dI r1.1)<|oD (dI r1.1)<|oK 1 [] h14 (c80 h13) k) (ih _ _ _ h)
  obtain⟨x15,h16,h⟩:=obind h
  obtain⟨r17,h18,h⟩:=obind h
  have k:=oA 0 (ix32 (o:=.no) h16)<|oB 0 h9 o0
  obtain⟨h19,h⟩:=spT h
  obtain rfl:=sj h
  exact fun j=>lF 0 [] (oK 1 [] h19 (c81 h18) k)
theorem c51{qq p0 r}(h:e51 qq p0=some r):K51 p0 r Ct:=by
 unfold e51 at h
 obtain⟨r1,h2,h⟩:=obind h
 have k:=oC 0 [] (c78 h2) o0
 obtain⟨h3,h⟩:=splF h
 have k:=oB 3 h3 k
 obtain⟨h4,h⟩:=splF h
 have k:=oB 1 h4 k
 obtain⟨h5,h⟩:=splF h
 obtain⟨r6,h7,h⟩:=obind h
 have k:=oB 1 h5 k
 obtain⟨h8,h⟩:=splF h
 exact k51 (tH q51 1 [] [] [] [3,30,31,32] (oD (dI r1.1)<|oD (dI r1.1)<|oK 0 [] h8 (c79 h7) k) (l51Laj _ _ _ _ h))
def e158(qq:Nat)(q0_signs q0_at:List Int)(q0_i:Int):Option (TokenToken×Bool×Int):=
 gidx q0_at q0_i>>=fun x1=>
 e198 qq q0_signs q0_at q0_i 0>>=fun r3=>
 e81 qq r3>>=fun r5=>
 if r5 then
 e202vaaf qq q0_signs q0_at q0_i>>=fun r8=>
 e79 qq r8.1>>=fun r10=>
 if r10 then
 some ((TokenToken.mk 2 r8.1 x1),true,r8.2)
 else
 if r8.1.toList==(⟨#[95]⟩:ByteArray).toList then
 none
 else
 e51 qq r8.1>>=fun r14=>
 some ((TokenToken.mk 1 r8.1 x1),r14,r8.2)
 else
 if r3==95 then
 none
 else
 e124 qq r3>>=fun r25=>
 if r25 then
 none
 else
 e205 qq q0_signs q0_at q0_i>>=fun r37=>
 some ((TokenToken.mk 4 r37.1 x1),decide (r37.2>0),(w64 (q0_i+r37.2)))
abbrev K158 (q0_signs q0_at:List Int) (q0_i:Int) (r:TokenToken×Bool×Int) (C:Cf):Prop:=C 158 [.cells [slv intC q0_signs .no,slv intC q0_at .no,ai q0_i]] [.mp 0 0] (.tup [tokenTokenA r.1,ab r.2.1]) [.cells [slv intC q0_signs .no,slv intC q0_at .no,ai r.2.2]] 0
theorem q158:Qf 158 Tryz.f158:=⟨Tryz.func158,by kernel_rfl⟩
theorem k158{q0_signs q0_at q0_i r}(h:K158 q0_signs q0_at q0_i r Ci):K158 q0_signs q0_at q0_i r Ct:=⟨h,⟨(lz rfl),tv⟩,(forall_cons ⟨⟨tv,dI _⟩,⟨tv,dI _⟩,tv,tv⟩ forall_nil),⟨⟨tv,tv,tv,tv⟩,tv,tv⟩,(forall_cons ⟨dI _,dI _,tv,tv⟩ forall_nil)⟩
theorem c158{qq q0_signs q0_at q0_i r}(h:e158 qq q0_signs q0_at q0_i=some r):K158 q0_signs q0_at q0_i r Ct:=by
 unfold e158 at h
 obtain⟨x1,h2,h⟩:=obind h
 obtain⟨r3,h4,h⟩:=obind h
 obtain⟨r5,h6,h⟩:=obind h
 have k:=oC 2 [0] (c198 h4)<|oA 2 (ix32 (o:=.no) h2) o0
 rcases spl h with⟨h7,h⟩|⟨h7,h⟩
 obtain⟨r8,h9,h⟩:=obind h
 obtain⟨r10,h11,h⟩:=obind h
 have k:=oC 0 [0] (c202vaaf h9)<|oK 0 [] h7 (c81 h6) k
 rcases spl h with⟨h12,h⟩|⟨h12,h⟩
 obtain rfl:=sj h
 exact k158 (tF q158 5 [0] (oD (dI q0_at)<|oD (dI q0_signs)<|oK 3 [] h12 (c79 h11) k))
 have k:=oK 3 [] h12 (c79 h11) k
 obtain⟨h13,h⟩:=splF h
 obtain⟨r14,h15,h⟩:=obind h
 obtain rfl:=sj h
 exact k158 (tF q158 1 [0] (oD (dI q0_at)<|oD (dI q0_signs)<|oC 1 [] (c51 h15)<|oB 4 h13 k))
 have k:=oK 0 [] h7 (c81 h6) k
 obtain⟨h16,h⟩:=splF h
 obtain⟨r25,h26,h⟩:=obind h
 have k:=oB 0 h16 k
 obtain⟨h27,h⟩:=splF h
 obtain⟨r37,h38,h⟩:=obind h
 obtain rfl:=sj h
 exact k158 (tF q158 10 [0] (oD (dI q0_at)<|oD (dI q0_signs)<|oC 0 [0] (c205 h38)<|oK 0 [] h27 (c124 h26) k))
def e104Lak:Nat->ByteArray->(List Int×Int×Int)->(List Int)->(List TokenToken)->Int->Option (List TokenToken×Int×Int)
 |0,_,_,_,_,_=>none
 |qq+1,p0,r1,r4,v9,vb0_2=>
 e157 qq r1.1 r4 vb0_2>>=fun r6=>
 if r6.2.1 then
 if decide (r6.2.2≥(List.length r1.1:Int))then
 gapp 32 v9 [(TokenToken.mk 5 (⟨#[]⟩:ByteArray) (p0.size:Int))]>>=fun l10=>
 some (l10,(p0.size:Int),0)
 else
 if decide ((List.length v9:Int)≥8192)then
 none
 else
 e158 qq r1.1 r4 r6.2.2>>=fun r15=>
 if r15.2.1 then
 gapp 32 v9 [r15.1]>>=fun l18=>
 e104Lak qq p0 r1 r4 l18 r15.2.2
 else
 none
 else
 none
def e104(qq:Nat)(p0:ByteArray):Option (List TokenToken×Int×Int):=
 e78 qq p0>>=fun r1=>
 if r1.2.2 != 0 then
 none
 else
 e156 qq r1.1>>=fun r4=>
 e104Lak qq p0 r1 r4 [] 0
def g104LakE0(j:Nat->Value)(p0:ByteArray)(r1:List Int×Int×Int)(r4:List Int)(v9:List TokenToken)(vb0_2:Int):=sp j 81 0 [(0,at' p0),(8,.mp 0 0),(9,slv tokenTokenL v9 (.st 0 3))]
def g104LakS0(p0:ByteArray)(r1:List Int×Int×Int)(r4:List Int)(v9:List TokenToken)(vb0_2:Int):LSt:=⟨[(0,.cells [slv intC r1.1 .no,slv intC r4 .no,ai vb0_2])],1,[0],1,[]⟩
abbrev K104 (p0:ByteArray) (r:List TokenToken×Int×Int) (C:Cf):Prop:=C 104 [] [at' p0] (.tup [.sl (flat tokenTokenL r.1) (List.length r.1) .no,ai r.2.1,ai r.2.2]) [] 0
theorem q104:Qf 104 Tryz.f104:=⟨Tryz.func104,by kernel_rfl⟩
theorem k104{p0 r}(h:K104 p0 r Ci):K104 p0 r Ct:=⟨h,⟨tv,tv⟩,forall_nil,⟨dTokenToken _,tv,tv,tv⟩,forall_nil⟩
theorem l104Lak:∀qq:Nat,(∀p0 r1 r4 v9 vb0_2 r,e104Lak qq p0 r1 r4 v9 vb0_2=some r->(∀j,Dl Tryz.prog 0 (inn (inn (lft (rgt (rgt (rgt (rgt (rgt (bod Tryz.f104))))))))) (g104LakE0 j p0 r1 r4 v9 vb0_2) (g104LakS0 p0 r1 r4 v9 vb0_2) (frameQ Tryz.prog 0 (FinQ Tryz.prog 0 Tryz.f104 (.tup [.sl (flat tokenTokenL r.1) (List.length r.1) .no,ai r.2.1,ai r.2.2]) [] 0) [.blk 0,.seq (rgt (rgt (rgt (rgt (rgt (rgt (bod Tryz.f104)))))))]))):=by
 intro qq
 induction qq with
 |zero=>
  exact fun _ _ _ _ _ _ h=>nn h
 |succ qq ih=>
  intro p0 r1 r4 v9 vb0_2 r h
  rw[e104Lak]at h
  obtain⟨r6,h7,h⟩:=obind h
  have k:=oC 0 [0] (c157 h7) o0
  obtain⟨h8,h⟩:=spT h
  have k:=oB 1 h8 k
  rcases spl h with⟨h9,h⟩|⟨h9,h⟩
  obtain⟨l10,h11,h⟩:=obind h
  obtain rfl:=sj h
  exact fun j=>lF 1 [] (oD (dTokenToken l10)<|oP 2 (apS129 h11 (by simp))<|oB 4 h9 k)
  have k:=oB 4 h9 k
  obtain⟨h12,h⟩:=splF h
  obtain⟨r15,h16,h⟩:=obind h
  have k:=oC 0 [0] (c158 h16)<|oB 1 h12 k
  obtain⟨h17,h⟩:=spT h
  obtain⟨l18,h19,h⟩:=obind h
  exact fun j=>lH 0 [] [0] [1] [0,8,9] (oD (dTokenToken l18)<|oD (dI r4)<|oD (dI r1.1)<|oP 4 (apS129 h19 (by simp))<|oB 1 h17 k) (ih _ _ _ _ _ _ h)
theorem c104{qq p0 r}(h:e104 qq p0=some r):K104 p0 r Ct:=by
 unfold e104 at h
 obtain⟨r1,h2,h⟩:=obind h
 have k:=oC 0 [] (c78 h2) o0
 obtain⟨h3,h⟩:=splF h
 obtain⟨r4,h5,h⟩:=obind h
 exact k104 (tH q104 0 [(none,9,3)] [0] [0] [0,8,9] (oD (dTokenToken ([]:List TokenToken))<|oD (dI r4)<|oD (dI r1.1)<|oC 0 [] (c156 h5)<|oB 3 h3 k) (l104Lak _ _ _ _ _ _ _ h))
def e69(qq:Nat)(p0:ByteArray):Option (List TokenToken×Int×Int×Int):=
 e104 qq p0>>=fun r1=>
 if r1.2.2 != 0 then
 none
 else
 some (r1.1,0,0,0)
abbrev K69 (p0:ByteArray) (r:List TokenToken×Int×Int×Int) (C:Cf):Prop:=C 69 [] [at' p0] (.mp 0 0) [.cells [slv tokenTokenL r.1 .no,ai r.2.1,ai r.2.2.1,ai r.2.2.2]] 0
theorem q69:Qf 69 Tryz.f69:=⟨Tryz.func69,by kernel_rfl⟩
theorem k69{p0 r}(h:K69 p0 r Ci):K69 p0 r Ct:=⟨h,⟨tv,tv⟩,forall_nil,(lz rfl),(forall_cons ⟨dTokenToken _,tv,tv,tv,tv⟩ forall_nil)⟩
theorem c69{qq p0 r}(h:e69 qq p0=some r):K69 p0 r Ct:=by
 unfold e69 at h
 obtain⟨r1,h2,h⟩:=obind h
 have k:=oC 0 [] (c104 h2) o0
 obtain⟨h3,h⟩:=splF h
 obtain rfl:=sj h
 exact k69 (tF q69 0 [0] (oD (dTokenToken r1.1)<|oB 3 h3 k))
def e70(qq:Nat)(q0_l:List TokenToken)(q0_i q0_at q0_bad p1:Int):Option (TokenToken):=
 if decide ((w64 (q0_i+p1))≥(List.length q0_l:Int))then
 none
 else
 gidx q0_l (w64 (q0_i+p1))>>=fun x4=>
 some x4
abbrev K70 (q0_l:List TokenToken) (q0_i q0_at q0_bad p1:Int) (r:TokenToken) (C:Cf):Prop:=C 70 [.cells [slv tokenTokenL q0_l .no,ai q0_i,ai q0_at,ai q0_bad]] [.mp 0 0,ai p1] (tokenTokenA r) [.cells [slv tokenTokenL q0_l .no,ai q0_i,ai q0_at,ai q0_bad]] 0
theorem q70:Qf 70 Tryz.f70:=⟨Tryz.func70,by kernel_rfl⟩
theorem k70{q0_l q0_i q0_at q0_bad p1 r}(h:K70 q0_l q0_i q0_at q0_bad p1 r Ci):K70 q0_l q0_i q0_at q0_bad p1 r Ct:=⟨h,⟨(lz rfl),tv,tv⟩,(forall_cons ⟨⟨tv,dTokenToken _⟩,tv,tv,tv,tv⟩ forall_nil),⟨tv,tv,tv,tv⟩,(forall_cons ⟨dTokenToken _,tv,tv,tv,tv⟩ forall_nil)⟩
theorem c70{qq q0_l q0_i q0_at q0_bad p1 r}(h:e70 qq q0_l q0_i q0_at q0_bad p1=some r):K70 q0_l q0_i q0_at q0_bad p1 r Ct:=by
 unfold e70 at h
 obtain⟨h1,h⟩:=splF h
 obtain⟨x4,h5,h⟩:=obind h
 obtain rfl:=sj h
 exact k70 (tF q70 2 [0] (oD (dTokenToken q0_l)<|oA 3 (ix129 (o:=.no) h5)<|oB 4 h1 o0))
def e159(qq:Nat)(q0_l:List TokenToken)(q0_i q0_at q0_bad p1:Int)(p2:ByteArray):Option (Bool):=
 e70 qq q0_l q0_i q0_at q0_bad p1>>=fun r1=>
 if r1.kind_==4 then
 some (r1.text_.toList==p2.toList)
 else
 if r1.kind_==2 then
 some (r1.text_.toList==p2.toList)
 else
 some false
abbrev K159 (q0_l:List TokenToken) (q0_i q0_at q0_bad p1:Int) (p2:ByteArray) (r:Bool) (C:Cf):Prop:=C 159 [.cells [slv tokenTokenL q0_l .no,ai q0_i,ai q0_at,ai q0_bad]] [.mp 0 0,ai p1,at' p2] (ab r) [.cells [slv tokenTokenL q0_l .no,ai q0_i,ai q0_at,ai q0_bad]] 0
theorem q159:Qf 159 Tryz.f159:=⟨Tryz.func159,by kernel_rfl⟩
theorem k159{q0_l q0_i q0_at q0_bad p1 p2 r}(h:K159 q0_l q0_i q0_at q0_bad p1 p2 r Ci):K159 q0_l q0_i q0_at q0_bad p1 p2 r Ct:=⟨h,⟨(lz rfl),tv,tv,tv⟩,(forall_cons ⟨⟨tv,dTokenToken _⟩,tv,tv,tv,tv⟩ forall_nil),tv,(forall_cons ⟨dTokenToken _,tv,tv,tv,tv⟩ forall_nil)⟩
theorem c159{qq q0_l q0_i q0_at q0_bad p1 p2 r}(h:e159 qq q0_l q0_i q0_at q0_bad p1 p2=some r):K159 q0_l q0_i q0_at q0_bad p1 p2 r Ct:=by
 unfold e159 at h
 obtain⟨r1,h2,h⟩:=obind h
 have k:=oC 0 [0] (c70 h2) o0
 rcases spl h with⟨h3,h⟩|⟨h3,h⟩
 obtain rfl:=sj h
 exact k159 (tF q159 2 [0] (oD (dTokenToken q0_l)<|oB 2 h3 k))
 have k:=oB 2 h3 k
 rcases spl h with⟨h4,h⟩|⟨h4,h⟩
 obtain rfl:=sj h
 exact k159 (tF q159 2 [0] (oD (dTokenToken q0_l)<|oB 1 h4 k))
 obtain rfl:=sj h
 exact k159 (tF q159 0 [0] (oD (dTokenToken q0_l)<|oB 1 h4 k))
def e105(qq:Nat)(q0_l:List TokenToken)(q0_i q0_at q0_bad:Int):Option (Int):=
 e159 qq q0_l q0_i q0_at q0_bad 0 (⟨#[100,97,116,97]⟩:ByteArray)>>=fun r1=>
 if r1 then
 some 1
 else
 none
abbrev K105 (q0_l:List TokenToken) (q0_i q0_at q0_bad r:Int) (C:Cf):Prop:=C 105 [.cells [slv tokenTokenL q0_l .no,ai q0_i,ai q0_at,ai q0_bad]] [.mp 0 0] (ai r) [.cells [slv tokenTokenL q0_l .no,ai q0_i,ai q0_at,ai q0_bad]] 0
theorem q105:Qf 105 Tryz.f105:=⟨Tryz.func105,by kernel_rfl⟩
theorem k105{q0_l q0_i q0_at q0_bad r}(h:K105 q0_l q0_i q0_at q0_bad r Ci):K105 q0_l q0_i q0_at q0_bad r Ct:=⟨h,⟨(lz rfl),tv⟩,(forall_cons ⟨⟨tv,dTokenToken _⟩,tv,tv,tv,tv⟩ forall_nil),tv,(forall_cons ⟨dTokenToken _,tv,tv,tv,tv⟩ forall_nil)⟩
theorem c105{qq q0_l q0_i q0_at q0_bad r}(h:e105 qq q0_l q0_i q0_at q0_bad=some r):K105 q0_l q0_i q0_at q0_bad r Ct:=by
 unfold e105 at h
 obtain⟨r1,h2,h⟩:=obind h
 obtain⟨h3,h⟩:=spT h
 obtain rfl:=sj h
 exact k105 (tF q105 0 [0] (oD (dTokenToken q0_l)<|oK 0 [0] h3 (c159 h2) o0))
def e160(qq:Nat)(q0_l:List TokenToken)(q0_i q0_at q0_bad p1:Int):Option (Bool):=
 e70 qq q0_l q0_i q0_at q0_bad p1>>=fun r1=>
 if r1.kind_==1 then
 e70 qq q0_l q0_i q0_at q0_bad p1>>=fun r4=>
 some (!(r4.text_.toList==(⟨#[95]⟩:ByteArray).toList))
 else
 some false
abbrev K160 (q0_l:List TokenToken) (q0_i q0_at q0_bad p1:Int) (r:Bool) (C:Cf):Prop:=C 160 [.cells [slv tokenTokenL q0_l .no,ai q0_i,ai q0_at,ai q0_bad]] [.mp 0 0,ai p1] (ab r) [.cells [slv tokenTokenL q0_l .no,ai q0_i,ai q0_at,ai q0_bad]] 0
theorem q160:Qf 160 Tryz.f160:=⟨Tryz.func160,by kernel_rfl⟩
theorem k160{q0_l q0_i q0_at q0_bad p1 r}(h:K160 q0_l q0_i q0_at q0_bad p1 r Ci):K160 q0_l q0_i q0_at q0_bad p1 r Ct:=⟨h,⟨(lz rfl),tv,tv⟩,(forall_cons ⟨⟨tv,dTokenToken _⟩,tv,tv,tv,tv⟩ forall_nil),tv,(forall_cons ⟨dTokenToken _,tv,tv,tv,tv⟩ forall_nil)⟩
theorem c160{qq q0_l q0_i q0_at q0_bad p1 r}(h:e160 qq q0_l q0_i q0_at q0_bad p1=some r):K160 q0_l q0_i q0_at q0_bad p1 r Ct:=by
 unfold e160 at h
 obtain⟨r1,h2,h⟩:=obind h
 have k:=oC 0 [0] (c70 h2) o0
 rcases spl h with⟨h3,h⟩|⟨h3,h⟩
 obtain⟨r4,h5,h⟩:=obind h
 obtain rfl:=sj h
 exact k160 (tF q160 1 [0] (oD (dTokenToken q0_l)<|oC 0 [0] (c70 h5)<|oB 0 h3 k))
 obtain rfl:=sj h
 exact k160 (tF q160 0 [0] (oD (dTokenToken q0_l)<|oB 0 h3 k))
def e107(qq:Nat)(q0_l:List TokenToken)(q0_i q0_at q0_bad:Int):Option (ByteArray×Int×Int×Int):=
 e160 qq q0_l q0_i q0_at q0_bad 0>>=fun r1=>
 if r1 then
 if q0_bad != 0 then
 none
 else
 e70 qq q0_l (w64 (q0_i+1)) q0_at q0_bad (-1)>>=fun r5=>
 some (r5.text_,(w64 (q0_i+1)),q0_at,q0_bad)
 else
 none
abbrev K107 (q0_l:List TokenToken) (q0_i q0_at q0_bad:Int) (r:ByteArray×Int×Int×Int) (C:Cf):Prop:=C 107 [.cells [slv tokenTokenL q0_l .no,ai q0_i,ai q0_at,ai q0_bad]] [.mp 0 0] (at' r.1) [.cells [slv tokenTokenL q0_l .no,ai r.2.1,ai r.2.2.1,ai r.2.2.2]] 0
theorem q107:Qf 107 Tryz.f107:=⟨Tryz.func107,by kernel_rfl⟩
theorem k107{q0_l q0_i q0_at q0_bad r}(h:K107 q0_l q0_i q0_at q0_bad r Ci):K107 q0_l q0_i q0_at q0_bad r Ct:=⟨h,⟨(lz rfl),tv⟩,(forall_cons ⟨⟨tv,dTokenToken _⟩,tv,tv,tv,tv⟩ forall_nil),tv,(forall_cons ⟨dTokenToken _,tv,tv,tv,tv⟩ forall_nil)⟩
theorem c107{qq q0_l q0_i q0_at q0_bad r}(h:e107 qq q0_l q0_i q0_at q0_bad=some r):K107 q0_l q0_i q0_at q0_bad r Ct:=by
 unfold e107 at h
 obtain⟨r1,h2,h⟩:=obind h
 obtain⟨h3,h⟩:=spT h
 have k:=oK 0 [0] h3 (c160 h2) o0
 obtain⟨h4,h⟩:=splF h
 obtain⟨r5,h6,h⟩:=obind h
 obtain rfl:=sj h
 exact k107 (tF q107 0 [0] (oD (dTokenToken q0_l)<|oC 3 [0] (c70 h6)<|oB 2 h4 k))
def e114(qq:Nat)(q0_l:List TokenToken)(q0_i q0_at q0_bad:Int):Option (Bool):=
 e159 qq q0_l q0_i q0_at q0_bad 0 (⟨#[125]⟩:ByteArray)>>=fun r1=>
 some (!r1)
abbrev K114 (q0_l:List TokenToken) (q0_i q0_at q0_bad:Int) (r:Bool) (C:Cf):Prop:=C 114 [.cells [slv tokenTokenL q0_l .no,ai q0_i,ai q0_at,ai q0_bad]] [.mp 0 0] (ab r) [.cells [slv tokenTokenL q0_l .no,ai q0_i,ai q0_at,ai q0_bad]] 0
theorem q114:Qf 114 Tryz.f114:=⟨Tryz.func114,by kernel_rfl⟩
theorem k114{q0_l q0_i q0_at q0_bad r}(h:K114 q0_l q0_i q0_at q0_bad r Ci):K114 q0_l q0_i q0_at q0_bad r Ct:=⟨h,⟨(lz rfl),tv⟩,(forall_cons ⟨⟨tv,dTokenToken _⟩,tv,tv,tv,tv⟩ forall_nil),tv,(forall_cons ⟨dTokenToken _,tv,tv,tv,tv⟩ forall_nil)⟩
theorem c114{qq q0_l q0_i q0_at q0_bad r}(h:e114 qq q0_l q0_i q0_at q0_bad=some r):K114 q0_l q0_i q0_at q0_bad r Ct:=by
 unfold e114 at h
 obtain⟨r1,h2,h⟩:=obind h
 obtain rfl:=sj h
 exact k114 (tF q114 1 [0] (oD (dTokenToken q0_l)<|oC 0 [0] (c159 h2) o0))
def e111(qq:Nat)(q0_l:List TokenToken)(q0_i q0_at q0_bad:Int)(p1:ByteArray):Option (Int×Int×Int):=
 e159 qq q0_l q0_i q0_at q0_bad 0 p1>>=fun r1=>
 if r1 then
 if q0_bad==0 then
 some ((w64 (q0_i+1)),q0_at,q0_bad)
 else
 none
 else
 none
abbrev K111 (q0_l:List TokenToken) (q0_i q0_at q0_bad:Int) (p1:ByteArray) (r:Int×Int×Int) (C:Cf):Prop:=C 111 [.cells [slv tokenTokenL q0_l .no,ai q0_i,ai q0_at,ai q0_bad]] [.mp 0 0,at' p1] (.tup []) [.cells [slv tokenTokenL q0_l .no,ai r.1,ai r.2.1,ai r.2.2]] 0
theorem q111:Qf 111 Tryz.f111:=⟨Tryz.func111,by kernel_rfl⟩
theorem k111{q0_l q0_i q0_at q0_bad p1 r}(h:K111 q0_l q0_i q0_at q0_bad p1 r Ci):K111 q0_l q0_i q0_at q0_bad p1 r Ct:=⟨h,⟨(lz rfl),tv,tv⟩,(forall_cons ⟨⟨tv,dTokenToken _⟩,tv,tv,tv,tv⟩ forall_nil),tv,(forall_cons ⟨dTokenToken _,tv,tv,tv,tv⟩ forall_nil)⟩
theorem c111{qq q0_l q0_i q0_at q0_bad p1 r}(h:e111 qq q0_l q0_i q0_at q0_bad p1=some r):K111 q0_l q0_i q0_at q0_bad p1 r Ct:=by
 unfold e111 at h
 obtain⟨r1,h2,h⟩:=obind h
 obtain⟨h3,h⟩:=spT h
 have k:=oK 0 [0] h3 (c159 h2) o0
 obtain⟨h4,h⟩:=spT h
 obtain rfl:=sj h
 exact k111 (tF q111 3 [0] (oD (dTokenToken q0_l)<|oB 2 h4 k))
mutual
def e269:Nat->TreeNode->Int->Option (Int)
 |0,_,_=>none
 |qq+1,p0,p1=>
 e269Lal qq p0 (w64 (p1+1)) 0
def e269Lal:Nat->TreeNode->Int->Int->Option (Int)
 |0,_,_,_=>none
 |qq+1,p0,v1,v12=>
 if decide (v12<(List.length p0.sub_:Int))then
 gidx p0.sub_ v12>>=fun x2=>
 if decide (v1>8192)then
 none
 else
 e269 qq x2 v1>>=fun r5=>
 e269Lal qq p0 r5 (w64 (v12+1))
 else
 some v1
end
def g269LalE0(j:Nat->Value)(p0:TreeNode)(v1 v12:Int):=sp j 23 0 [(1,ai v1),(10,slv treeNodeC p0.sub_ .no),(11,ai (List.length p0.sub_:Int)),(12,ai v12)]
def g269LalS0(p0:TreeNode)(v1 v12:Int):LSt:=⟨[],0,[],0,[]⟩
abbrev K269 (p0:TreeNode) (p1 r:Int) (C:Cf):Prop:=C 269 [] [treeNodeA p0,ai p1] (ai r) [] 0
theorem q269:Qf 269 Tryz.f269:=⟨Tryz.func269,by kernel_rfl⟩
theorem k269{p0 p1 r}(h:K269 p0 p1 r Ci):K269 p0 p1 r Ct:=⟨h,⟨⟨tv,tv,tv,tv,⟨tv,dTreeNode _⟩,tv⟩,tv,tv⟩,forall_nil,tv,forall_nil⟩
theorem a269_269Lal:∀qq:Nat,(∀p0 p1 r,e269 qq p0 p1=some r->K269 p0 p1 r Ct)∧(∀p0 v1 v12 r,e269Lal qq p0 v1 v12=some r->(∀j,Dl Tryz.prog 0 (inn (inn (rgt (lft (rgt (rgt (bod Tryz.f269))))))) (g269LalE0 j p0 v1 v12) (g269LalS0 p0 v1 v12) (frameQ Tryz.prog 0 (FinQ Tryz.prog 0 Tryz.f269 (ai r) [] 0) [.blk 0,.seq (rgt (rgt (rgt (bod Tryz.f269))))]))):=by
 intro qq
 induction qq with
 |zero=>
  exact⟨fun _ _ _ h=>nn h,fun _ _ _ _ h=>nn h⟩
 |succ qq ih=>
  obtain⟨ih269,ih269Lal⟩:=ih
  refine⟨?_,?_⟩
  intro p0 p1 r h
  rw[e269]at h
  exact k269 (tH q269 3 [] [] [] [1,10,11,12] (oD (dTreeNode p0.sub_) o0) (ih269Lal _ _ _ _ h))
  intro p0 v1 v12 r h
  rw[e269Lal]at h
  rcases spl h with⟨h1,h⟩|⟨h1,h⟩
  obtain⟨x2,h3,h⟩:=obind h
  have k:=oA 0 (ix57 (o:=.no) h3)<|oB 0 h1 o0
  obtain⟨h4,h⟩:=splF h
  obtain⟨r5,h6,h⟩:=obind h
  exact fun j=>lH 1 [] [] [] [1,10,11,12] (oD (dTreeNode p0.sub_)<|oC 1 [] (ih269 _ _ _ h6)<|oB 2 h4 k) (ih269Lal _ _ _ _ h)
  obtain rfl:=sj h
  exact fun j=>lF 0 [] (oB 0 h1 o0)
theorem c269{qq p0 p1 r}(h:e269 qq p0 p1=some r):K269 p0 p1 r Ct:=(a269_269Lal _).1 _ _ _ h
def e236(qq:Nat)(p0:TreeNode):Option (Int):=
 e269 qq p0 0>>=fun r1=>
 some r1
abbrev K236 (p0:TreeNode) (r:Int) (C:Cf):Prop:=C 236 [] [treeNodeA p0] (ai r) [] 0
theorem q236:Qf 236 Tryz.f236:=⟨Tryz.func236,by kernel_rfl⟩
theorem k236{p0 r}(h:K236 p0 r Ci):K236 p0 r Ct:=⟨h,⟨⟨tv,tv,tv,tv,⟨tv,dTreeNode _⟩,tv⟩,tv⟩,forall_nil,tv,forall_nil⟩
theorem c236{qq p0 r}(h:e236 qq p0=some r):K236 p0 r Ct:=by
 unfold e236 at h
 obtain⟨r1,h2,h⟩:=obind h
 obtain rfl:=sj h
 exact k236 (tF q236 0 [] (oC 1 [] (c269 h2) o0))
mutual
def e237:Nat->TreeNode->Int->Option (Int)
 |0,_,_=>none
 |qq+1,p0,p1=>
 if decide (p1>128)then
 none
 else
 e237Lam qq p0 p1 0 p1
def e237Lam:Nat->TreeNode->Int->Int->Int->Option (Int)
 |0,_,_,_,_=>none
 |qq+1,p0,p1,v15,v5=>
 if decide (v15<(List.length p0.sub_:Int))then
 gidx p0.sub_ v15>>=fun x3=>
 e237 qq x3 (w64 (p1+1))>>=fun r5=>
 e237Lam qq p0 p1 (w64 (v15+1)) (imax v5 r5)
 else
 some v5
end
def g237LamE0(j:Nat->Value)(p0:TreeNode)(p1 v15 v5:Int):=sp j 27 0 [(1,ai p1),(5,ai v5),(13,slv treeNodeC p0.sub_ .no),(14,ai (List.length p0.sub_:Int)),(15,ai v15)]
def g237LamS0(p0:TreeNode)(p1 v15 v5:Int):LSt:=⟨[],0,[],0,[]⟩
abbrev K237 (p0:TreeNode) (p1 r:Int) (C:Cf):Prop:=C 237 [] [treeNodeA p0,ai p1] (ai r) [] 0
theorem q237:Qf 237 Tryz.f237:=⟨Tryz.func237,by kernel_rfl⟩
theorem k237{p0 p1 r}(h:K237 p0 p1 r Ci):K237 p0 p1 r Ct:=⟨h,⟨⟨tv,tv,tv,tv,⟨tv,dTreeNode _⟩,tv⟩,tv,tv⟩,forall_nil,tv,forall_nil⟩
theorem a237_237Lam:∀qq:Nat,(∀p0 p1 r,e237 qq p0 p1=some r->K237 p0 p1 r Ct)∧(∀p0 p1 v15 v5 r,e237Lam qq p0 p1 v15 v5=some r->(∀j,Dl Tryz.prog 0 (inn (inn (rgt (lft (rgt (rgt (rgt (bod Tryz.f237)))))))) (g237LamE0 j p0 p1 v15 v5) (g237LamS0 p0 p1 v15 v5) (frameQ Tryz.prog 0 (FinQ Tryz.prog 0 Tryz.f237 (ai r) [] 0) [.blk 0,.seq (rgt (rgt (rgt (rgt (bod Tryz.f237)))))]))):=by
 intro qq
 induction qq with
 |zero=>
  exact⟨fun _ _ _ h=>nn h,fun _ _ _ _ _ h=>nn h⟩
 |succ qq ih=>
  obtain⟨ih237,ih237Lam⟩:=ih
  refine⟨?_,?_⟩
  intro p0 p1 r h
  rw[e237]at h
  obtain⟨h1,h⟩:=splF h
  exact k237 (tH q237 2 [] [] [] [1,5,13,14,15] (oD (dTreeNode p0.sub_)<|oB 0 h1 o0) (ih237Lam _ _ _ _ _ h))
  intro p0 p1 v15 v5 r h
  rw[e237Lam]at h
  rcases spl h with⟨h2,h⟩|⟨h2,h⟩
  obtain⟨x3,h4,h⟩:=obind h
  obtain⟨r5,h6,h⟩:=obind h
  exact fun j=>lH 2 [] [] [] [1,5,13,14,15] (oD (dTreeNode p0.sub_)<|oC 4 [] (ih237 _ _ _ h6)<|oA 0 (ix57 (o:=.no) h4)<|oB 0 h2 o0) (ih237Lam _ _ _ _ _ h)
  obtain rfl:=sj h
  exact fun j=>lF 0 [] (oB 0 h2 o0)
theorem c237{qq p0 p1 r}(h:e237 qq p0 p1=some r):K237 p0 p1 r Ct:=(a237_237Lam _).1 _ _ _ h
def e206(qq:Nat)(p0:TreeNode):Option (Int):=
 e236 qq p0>>=fun r1=>
 if decide (r1>8192)then
 none
 else
 e237 qq p0 1>>=fun r4=>
 some r4
abbrev K206 (p0:TreeNode) (r:Int) (C:Cf):Prop:=C 206 [] [treeNodeA p0] (ai r) [] 0
theorem q206:Qf 206 Tryz.f206:=⟨Tryz.func206,by kernel_rfl⟩
theorem k206{p0 r}(h:K206 p0 r Ci):K206 p0 r Ct:=⟨h,⟨⟨tv,tv,tv,tv,⟨tv,dTreeNode _⟩,tv⟩,tv⟩,forall_nil,tv,forall_nil⟩
theorem c206{qq p0 r}(h:e206 qq p0=some r):K206 p0 r Ct:=by
 unfold e206 at h
 obtain⟨r1,h2,h⟩:=obind h
 have k:=oC 1 [] (c236 h2) o0
 obtain⟨h3,h⟩:=splF h
 obtain⟨r4,h5,h⟩:=obind h
 obtain rfl:=sj h
 exact k206 (tF q206 0 [] (oC 1 [] (c237 h5)<|oB 0 h3 k))
def e162(qq:Nat)(q0_l:List TokenToken)(q0_i q0_at q0_bad:Int)(p1:TreeNode)(p2:Int):Option (TreeNode×Int×Int):=
 if q0_bad==0 then
 e206 qq p1>>=fun r2=>
 if decide (r2>128)then
 none
 else
 some (p1,q0_at,q0_bad)
 else
 none
abbrev K162 (q0_l:List TokenToken) (q0_i q0_at q0_bad:Int) (p1:TreeNode) (p2:Int) (r:TreeNode×Int×Int) (C:Cf):Prop:=C 162 [.cells [slv tokenTokenL q0_l .no,ai q0_i,ai q0_at,ai q0_bad]] [.mp 0 0,treeNodeA p1,ai p2] (treeNodeA r.1) [.cells [slv tokenTokenL q0_l .no,ai q0_i,ai r.2.1,ai r.2.2]] 0
theorem q162:Qf 162 Tryz.f162:=⟨Tryz.func162,by kernel_rfl⟩
theorem k162{q0_l q0_i q0_at q0_bad p1 p2 r}(h:K162 q0_l q0_i q0_at q0_bad p1 p2 r Ci):K162 q0_l q0_i q0_at q0_bad p1 p2 r Ct:=⟨h,⟨(lz rfl),⟨tv,tv,tv,tv,⟨tv,dTreeNode _⟩,tv⟩,tv,tv⟩,(forall_cons ⟨⟨tv,dTokenToken _⟩,tv,tv,tv,tv⟩ forall_nil),⟨tv,tv,tv,tv,dTreeNode _,tv⟩,(forall_cons ⟨dTokenToken _,tv,tv,tv,tv⟩ forall_nil)⟩
theorem c162{qq q0_l q0_i q0_at q0_bad p1 p2 r}(h:e162 qq q0_l q0_i q0_at q0_bad p1 p2=some r):K162 q0_l q0_i q0_at q0_bad p1 p2 r Ct:=by
 unfold e162 at h
 obtain⟨h1,h⟩:=spT h
 obtain⟨r2,h3,h⟩:=obind h
 have k:=oC 1 [] (c206 h3)<|oB 1 h1 o0
 obtain⟨h4,h⟩:=splF h
 obtain rfl:=sj h
 exact k162 (tF q162 2 [0] (oD (dTreeNode p1.sub_)<|oD (dTokenToken q0_l)<|oB 0 h4 k))
def e208(qq:Nat)(q0_l:List TokenToken)(q0_i q0_at q0_bad:Int):Option (Bool):=
 e159 qq q0_l q0_i q0_at q0_bad 0 (⟨#[40]⟩:ByteArray)>>=fun r1=>
 if r1 then
 none
 else
 some false
abbrev K208 (q0_l:List TokenToken) (q0_i q0_at q0_bad:Int) (r:Bool) (C:Cf):Prop:=C 208 [.cells [slv tokenTokenL q0_l .no,ai q0_i,ai q0_at,ai q0_bad]] [.mp 0 0] (ab r) [.cells [slv tokenTokenL q0_l .no,ai q0_i,ai q0_at,ai q0_bad]] 0
theorem q208:Qf 208 Tryz.f208:=⟨Tryz.func208,by kernel_rfl⟩
theorem k208{q0_l q0_i q0_at q0_bad r}(h:K208 q0_l q0_i q0_at q0_bad r Ci):K208 q0_l q0_i q0_at q0_bad r Ct:=⟨h,⟨(lz rfl),tv⟩,(forall_cons ⟨⟨tv,dTokenToken _⟩,tv,tv,tv,tv⟩ forall_nil),tv,(forall_cons ⟨dTokenToken _,tv,tv,tv,tv⟩ forall_nil)⟩
theorem c208{qq q0_l q0_i q0_at q0_bad r}(h:e208 qq q0_l q0_i q0_at q0_bad=some r):K208 q0_l q0_i q0_at q0_bad r Ct:=by
 unfold e208 at h
 obtain⟨r1,h2,h⟩:=obind h
 obtain⟨h3,h⟩:=splF h
 obtain rfl:=sj h
 exact k208 (tF q208 0 [0] (oD (dTokenToken q0_l)<|oK 0 [0] h3 (c159 h2) o0))
def e240(qq:Nat)(q0_l:List TokenToken)(q0_i q0_at q0_bad:Int):Option (Bool):=
 e160 qq q0_l q0_i q0_at q0_bad 0>>=fun r1=>
 if r1 then
 none
 else
 e159 qq q0_l q0_i q0_at q0_bad 0 (⟨#[83,101,116]⟩:ByteArray)>>=fun r4=>
 if r4 then
 none
 else
 e159 qq q0_l q0_i q0_at q0_bad 0 (⟨#[40]⟩:ByteArray)>>=fun r7=>
 if r7 then
 none
 else
 some false
abbrev K240 (q0_l:List TokenToken) (q0_i q0_at q0_bad:Int) (r:Bool) (C:Cf):Prop:=C 240 [.cells [slv tokenTokenL q0_l .no,ai q0_i,ai q0_at,ai q0_bad]] [.mp 0 0] (ab r) [.cells [slv tokenTokenL q0_l .no,ai q0_i,ai q0_at,ai q0_bad]] 0
theorem q240:Qf 240 Tryz.f240:=⟨Tryz.func240,by kernel_rfl⟩
theorem k240{q0_l q0_i q0_at q0_bad r}(h:K240 q0_l q0_i q0_at q0_bad r Ci):K240 q0_l q0_i q0_at q0_bad r Ct:=⟨h,⟨(lz rfl),tv⟩,(forall_cons ⟨⟨tv,dTokenToken _⟩,tv,tv,tv,tv⟩ forall_nil),tv,(forall_cons ⟨dTokenToken _,tv,tv,tv,tv⟩ forall_nil)⟩
theorem c240{qq q0_l q0_i q0_at q0_bad r}(h:e240 qq q0_l q0_i q0_at q0_bad=some r):K240 q0_l q0_i q0_at q0_bad r Ct:=by
 unfold e240 at h
 obtain⟨r1,h2,h⟩:=obind h
 obtain⟨h3,h⟩:=splF h
 obtain⟨r4,h5,h⟩:=obind h
 have k:=oK 0 [0] h3 (c160 h2) o0
 obtain⟨h6,h⟩:=splF h
 obtain⟨r7,h8,h⟩:=obind h
 have k:=oK 0 [0] h6 (c159 h5) k
 obtain⟨h9,h⟩:=splF h
 obtain rfl:=sj h
 exact k240 (tF q240 0 [0] (oD (dTokenToken q0_l)<|oK 0 [0] h9 (c159 h8) k))
def e270(qq:Nat)(q0_l:List TokenToken)(q0_i q0_at q0_bad:Int):Option (TreeNode×Int×Int×Int):=
 e70 qq q0_l q0_i q0_at q0_bad 0>>=fun r1=>
 e70 qq q0_l (w64 (q0_i+1)) q0_at q0_bad 0>>=fun r3=>
 if r3.kind_==3 then
 none
 else
 some ((TreeNode.mk 2 r1.at_ (⟨#[]⟩:ByteArray) 0 []),(w64 (q0_i+1)),q0_at,q0_bad)
abbrev K270 (q0_l:List TokenToken) (q0_i q0_at q0_bad:Int) (r:TreeNode×Int×Int×Int) (C:Cf):Prop:=C 270 [.cells [slv tokenTokenL q0_l .no,ai q0_i,ai q0_at,ai q0_bad]] [.mp 0 0] (treeNodeA r.1) [.cells [slv tokenTokenL q0_l .no,ai r.2.1,ai r.2.2.1,ai r.2.2.2]] 0
theorem q270:Qf 270 Tryz.f270:=⟨Tryz.func270,by kernel_rfl⟩
theorem k270{q0_l q0_i q0_at q0_bad r}(h:K270 q0_l q0_i q0_at q0_bad r Ci):K270 q0_l q0_i q0_at q0_bad r Ct:=⟨h,⟨(lz rfl),tv⟩,(forall_cons ⟨⟨tv,dTokenToken _⟩,tv,tv,tv,tv⟩ forall_nil),⟨tv,tv,tv,tv,dTreeNode _,tv⟩,(forall_cons ⟨dTokenToken _,tv,tv,tv,tv⟩ forall_nil)⟩
theorem c270{qq q0_l q0_i q0_at q0_bad r}(h:e270 qq q0_l q0_i q0_at q0_bad=some r):K270 q0_l q0_i q0_at q0_bad r Ct:=by
 unfold e270 at h
 obtain⟨r1,h2,h⟩:=obind h
 obtain⟨r3,h4,h⟩:=obind h
 have k:=oC 4 [0] (c70 h4)<|oC 0 [0] (c70 h2) o0
 obtain⟨h5,h⟩:=splF h
 obtain rfl:=sj h
 exact k270 (tF q270 2 [0] (oD (dTreeNode ([]:List TreeNode))<|oD (dTokenToken q0_l)<|oB 0 h5 k))
def e209Lan(qq:Nat)(q0_l:List TokenToken)(r1:TreeNode×Int×Int×Int)(vb0_1 vb0_2 vb0_3 vb2_0:Int)(vb2_2:ByteArray)(vb2_3:Int)(vb2_4:List TreeNode):Option (TreeNode×Int×Int×Int):=
 if vb0_3==0 then
 e240 qq q0_l vb0_1 vb0_2 vb0_3>>=fun r4=>
 if r4 then
 none
 else
 some ((TreeNode.mk vb2_0 r1.1.at_ vb2_2 vb2_3 vb2_4),vb0_1,vb0_2,vb0_3)
 else
 none
def e239(qq:Nat)(q0_l:List TokenToken)(q0_i q0_at q0_bad:Int):Option (TreeNode×Int×Int×Int):=
 if q0_bad != 0 then
 none
 else
 e159 qq q0_l q0_i q0_at q0_bad 0 (⟨#[83,101,116]⟩:ByteArray)>>=fun r2=>
 if r2 then
 e270 qq q0_l q0_i q0_at q0_bad>>=fun r5=>
 some (r5.1,r5.2.1,r5.2.2.1,r5.2.2.2)
 else
 e159 qq q0_l q0_i q0_at q0_bad 0 (⟨#[40]⟩:ByteArray)>>=fun r7=>
 if r7 then
 none
 else
 e70 qq q0_l q0_i q0_at q0_bad 0>>=fun r14=>
 e107 qq q0_l q0_i q0_at q0_bad>>=fun r16=>
 some ((TreeNode.mk 1 r14.at_ r16.1 0 []),r16.2.1,r16.2.2.1,r16.2.2.2)
def e209(qq:Nat)(q0_l:List TokenToken)(q0_i q0_at q0_bad:Int):Option (TreeNode×Int×Int×Int):=
 e239 qq q0_l q0_i q0_at q0_bad>>=fun r1=>
 e209Lan qq q0_l r1 r1.2.1 r1.2.2.1 r1.2.2.2 r1.1.kind_ r1.1.name_ r1.1.n_ r1.1.sub_
def e163:Nat->(List TokenToken)->Int->Int->Int->Option (TreeNode×Int×Int×Int)
 |0,_,_,_,_=>none
 |qq+1,q0_l,q0_i,q0_at,q0_bad=>
 e70 qq q0_l q0_i q0_at q0_bad 0>>=fun r1=>
 if q0_bad != 0 then
 none
 else
 e159 qq q0_l q0_i q0_at q0_bad 0 (⟨#[92]⟩:ByteArray)>>=fun r4=>
 if r4 then
 none
 else
 e208 qq q0_l q0_i q0_at q0_bad>>=fun r9=>
 if r9 then
 none
 else
 e209 qq q0_l q0_i q0_at q0_bad>>=fun r14=>
 if r14.2.2.2==0 then
 e159 qq q0_l r14.2.1 r14.2.2.1 r14.2.2.2 0 (⟨#[45,62]⟩:ByteArray)>>=fun r17=>
 if r17 then
 e163 qq q0_l (w64 (r14.2.1+1)) r14.2.2.1 r14.2.2.2>>=fun r20=>
 some ((TreeNode.mk 3 r14.1.at_ (⟨#[95]⟩:ByteArray) 0 [r14.1,r20.1]),r20.2.1,r20.2.2.1,r20.2.2.2)
 else
 some (r14.1,r14.2.1,r14.2.2.1,r14.2.2.2)
 else
 none
def g209LanE0(j:Nat->Value)(q0_l:List TokenToken)(r1:TreeNode×Int×Int×Int)(vb0_1 vb0_2 vb0_3 vb2_0:Int)(vb2_2:ByteArray)(vb2_3:Int)(vb2_4:List TreeNode):=sp j 23 0 [(0,.mp 0 0),(2,.mp 1 0),(3,.mp 2 0)]
def g209LanS0(q0_l:List TokenToken)(r1:TreeNode×Int×Int×Int)(vb0_1 vb0_2 vb0_3 vb2_0:Int)(vb2_2:ByteArray)(vb2_3:Int)(vb2_4:List TreeNode):LSt:=⟨[(0,.cells [slv tokenTokenL q0_l .no,ai vb0_1,ai vb0_2,ai vb0_3]),(1,.cells [ai 0,ai 0,at' (⟨#[]⟩:ByteArray),ai 0,slv treeNodeC ([]:List TreeNode) .nl]),(2,.cells [ai vb2_0,ai r1.1.at_,at' vb2_2,ai vb2_3,slv treeNodeC vb2_4 .no])],3,[],0,[]⟩
def g209LanE1(j:Nat->Value)(q0_l:List TokenToken)(r1:TreeNode×Int×Int×Int)(vb0_1 vb0_2 vb0_3 vb2_0:Int)(vb2_2:ByteArray)(vb2_3:Int)(vb2_4:List TreeNode):=sp j 23 0 [(0,.mp 0 0),(2,.mp 1 0),(3,.mp 2 0)]
def g209LanS1(q0_l:List TokenToken)(r1:TreeNode×Int×Int×Int)(vb0_1 vb0_2 vb0_3 vb2_0:Int)(vb2_2:ByteArray)(vb2_3:Int)(vb2_4:List TreeNode):LSt:=⟨[(0,.cells [slv tokenTokenL q0_l .no,ai vb0_1,ai vb0_2,ai vb0_3]),(1,.cells [ai 0,ai 0,at' (⟨#[]⟩:ByteArray),ai 0,slv treeNodeC ([]:List TreeNode) .nl]),(2,.cells [ai vb2_0,ai r1.1.at_,at' vb2_2,ai vb2_3,slv treeNodeC vb2_4 .full])],3,[],0,[]⟩
abbrev K163 (q0_l:List TokenToken) (q0_i q0_at q0_bad:Int) (r:TreeNode×Int×Int×Int) (C:Cf):Prop:=C 163 [.cells [slv tokenTokenL q0_l .no,ai q0_i,ai q0_at,ai q0_bad]] [.mp 0 0] (treeNodeA r.1) [.cells [slv tokenTokenL q0_l .no,ai r.2.1,ai r.2.2.1,ai r.2.2.2]] 0
abbrev K209 (q0_l:List TokenToken) (q0_i q0_at q0_bad:Int) (r:TreeNode×Int×Int×Int) (C:Cf):Prop:=C 209 [.cells [slv tokenTokenL q0_l .no,ai q0_i,ai q0_at,ai q0_bad]] [.mp 0 0] (treeNodeA r.1) [.cells [slv tokenTokenL q0_l .no,ai r.2.1,ai r.2.2.1,ai r.2.2.2]] 0
abbrev K239 (q0_l:List TokenToken) (q0_i q0_at q0_bad:Int) (r:TreeNode×Int×Int×Int) (C:Cf):Prop:=C 239 [.cells [slv tokenTokenL q0_l .no,ai q0_i,ai q0_at,ai q0_bad]] [.mp 0 0] (treeNodeA r.1) [.cells [slv tokenTokenL q0_l .no,ai r.2.1,ai r.2.2.1,ai r.2.2.2]] 0
theorem q163:Qf 163 Tryz.f163:=⟨Tryz.func163,by kernel_rfl⟩
theorem k163{q0_l q0_i q0_at q0_bad r}(h:K163 q0_l q0_i q0_at q0_bad r Ci):K163 q0_l q0_i q0_at q0_bad r Ct:=⟨h,⟨(lz rfl),tv⟩,(forall_cons ⟨⟨tv,dTokenToken _⟩,tv,tv,tv,tv⟩ forall_nil),⟨tv,tv,tv,tv,dTreeNode _,tv⟩,(forall_cons ⟨dTokenToken _,tv,tv,tv,tv⟩ forall_nil)⟩
theorem q209:Qf 209 Tryz.f209:=⟨Tryz.func209,by kernel_rfl⟩
theorem k209{q0_l q0_i q0_at q0_bad r}(h:K209 q0_l q0_i q0_at q0_bad r Ci):K209 q0_l q0_i q0_at q0_bad r Ct:=⟨h,⟨(lz rfl),tv⟩,(forall_cons ⟨⟨tv,dTokenToken _⟩,tv,tv,tv,tv⟩ forall_nil),⟨tv,tv,tv,tv,dTreeNode _,tv⟩,(forall_cons ⟨dTokenToken _,tv,tv,tv,tv⟩ forall_nil)⟩
theorem q239:Qf 239 Tryz.f239:=⟨Tryz.func239,by kernel_rfl⟩
theorem k239{q0_l q0_i q0_at q0_bad r}(h:K239 q0_l q0_i q0_at q0_bad r Ci):K239 q0_l q0_i q0_at q0_bad r Ct:=⟨h,⟨(lz rfl),tv⟩,(forall_cons ⟨⟨tv,dTokenToken _⟩,tv,tv,tv,tv⟩ forall_nil),⟨tv,tv,tv,tv,dTreeNode _,tv⟩,(forall_cons ⟨dTokenToken _,tv,tv,tv,tv⟩ forall_nil)⟩
theorem l209Lan(qq q0_l r1 vb0_1 vb0_2 vb0_3 vb2_0 vb2_2 vb2_3 vb2_4 r)(h:e209Lan qq q0_l r1 vb0_1 vb0_2 vb0_3 vb2_0 vb2_2 vb2_3 vb2_4=some r):(∀j,Dl Tryz.prog 1 (inn (inn (lft (rgt (rgt (bod Tryz.f209)))))) (g209LanE0 j q0_l r1 vb0_1 vb0_2 vb0_3 vb2_0 vb2_2 vb2_3 vb2_4) (g209LanS0 q0_l r1 vb0_1 vb0_2 vb0_3 vb2_0 vb2_2 vb2_3 vb2_4) (frameQ Tryz.prog 1 (FinQ Tryz.prog 1 Tryz.f209 (treeNodeA r.1) [.cells [slv tokenTokenL q0_l .no,ai r.2.1,ai r.2.2.1,ai r.2.2.2]] 0) [.blk 0,.seq (rgt (rgt (rgt (bod Tryz.f209))))]))∧(∀j,Dl Tryz.prog 1 (inn (inn (lft (rgt (rgt (bod Tryz.f209)))))) (g209LanE1 j q0_l r1 vb0_1 vb0_2 vb0_3 vb2_0 vb2_2 vb2_3 vb2_4) (g209LanS1 q0_l r1 vb0_1 vb0_2 vb0_3 vb2_0 vb2_2 vb2_3 vb2_4) (frameQ Tryz.prog 1 (FinQ Tryz.prog 1 Tryz.f209 (treeNodeA r.1) [.cells [slv tokenTokenL q0_l .no,ai r.2.1,ai r.2.2.1,ai r.2.2.2]] 0) [.blk 0,.seq (rgt (rgt (rgt (bod Tryz.f209))))])):=by
 unfold e209Lan at h
 refine⟨?_,?_⟩
 obtain⟨h3,h⟩:=spT h
 obtain⟨r4,h5,h⟩:=obind h
 have k:=oB 1 h3 o0
 obtain⟨h6,h⟩:=splF h
 obtain rfl:=sj h
 exact fun j=>lF 2 [0] (oD (dTreeNode vb2_4)<|oD (dTokenToken q0_l)<|oK 0 [0] h6 (c240 h5) k)
 obtain⟨h3,h⟩:=spT h
 obtain⟨r4,h5,h⟩:=obind h
 have k:=oB 1 h3 o0
 obtain⟨h6,h⟩:=splF h
 obtain rfl:=sj h
 exact fun j=>lF 2 [0] (oD (dTreeNode vb2_4)<|oD (dTokenToken q0_l)<|oK 0 [0] h6 (c240 h5) k)
theorem c239{qq q0_l q0_i q0_at q0_bad r}(h:e239 qq q0_l q0_i q0_at q0_bad=some r):K239 q0_l q0_i q0_at q0_bad r Ct:=by
 unfold e239 at h
 obtain⟨h1,h⟩:=splF h
 obtain⟨r2,h3,h⟩:=obind h
 have k:=oB 1 h1 o0
 rcases spl h with⟨h4,h⟩|⟨h4,h⟩
 obtain⟨r5,h6,h⟩:=obind h
 obtain rfl:=sj h
 exact k239 (tF q239 1 [0] (oD (dTreeNode r5.1.sub_)<|oD (dTokenToken q0_l)<|oC 0 [0] (c270 h6)<|oK 0 [0] h4 (c159 h3) k))
 obtain⟨r7,h8,h⟩:=obind h
 have k:=oK 0 [0] h4 (c159 h3) k
 obtain⟨h9,h⟩:=splF h
 obtain⟨r14,h15,h⟩:=obind h
 obtain⟨r16,h17,h⟩:=obind h
 obtain rfl:=sj h
 exact k239 (tF q239 1 [0] (oD (dTreeNode ([]:List TreeNode))<|oD (dTokenToken q0_l)<|oC 0 [0] (c107 h17)<|oC 0 [0] (c70 h15)<|oK 0 [0] h9 (c159 h8) k))
theorem c209{qq q0_l q0_i q0_at q0_bad r}(h:e209 qq q0_l q0_i q0_at q0_bad=some r):K209 q0_l q0_i q0_at q0_bad r Ct:=by
 unfold e209 at h
 obtain⟨r1,h2,h⟩:=obind h
 exact k209 (tH q209 1 [] [0,1,2] [] [0,2,3] (oD (dTreeNode r1.1.sub_)<|oD (dTreeNode ([]:List TreeNode))<|oD (dTokenToken q0_l)<|oC 0 [0] (c239 h2) o0) ((l209Lan qq _ _ _ _ _ _ _ _ _ _ h).1))
theorem a163:∀qq:Nat,(∀q0_l q0_i q0_at q0_bad r,e163 qq q0_l q0_i q0_at q0_bad=some r->K163 q0_l q0_i q0_at q0_bad r Ct):=by
 intro qq
 induction qq with
 |zero=>
  exact fun _ _ _ _ _ h=>nn h
 |succ qq ih=>
  intro q0_l q0_i q0_at q0_bad r h
  rw[e163]at h
  obtain⟨r1,h2,h⟩:=obind h
  have k:=oC 0 [0] (c70 h2) o0
  obtain⟨h3,h⟩:=splF h
  obtain⟨r4,h5,h⟩:=obind h
  have k:=oB 1 h3 k
  obtain⟨h6,h⟩:=splF h
  obtain⟨r9,h10,h⟩:=obind h
  have k:=oK 0 [0] h6 (c159 h5) k
  obtain⟨h11,h⟩:=splF h
  obtain⟨r14,h15,h⟩:=obind h
  have k:=oC 0 [0] (c209 h15)<|oK 0 [0] h11 (c208 h10) k
  obtain⟨h16,h⟩:=spT h
  obtain⟨r17,h18,h⟩:=obind h
  have k:=oB 2 h16 k
  rcases spl h with⟨h19,h⟩|⟨h19,h⟩
  obtain⟨r20,h21,h⟩:=obind h
  obtain rfl:=sj h
  exact k163 (tF q163 1 [0] (oD (dTreeNode [r14.1,r20.1])<|oD (dTokenToken q0_l)<|oS 0 (obLitR treeNode_eq [r14.1,r20.1])<|oC 1 [0] (ih _ _ _ _ _ h21)<|oCl 3<|oK 0 [0] h19 (c159 h18) k))
  obtain rfl:=sj h
  exact k163 (tF q163 2 [0] (oD (dTreeNode r14.1.sub_)<|oD (dTokenToken q0_l)<|oK 0 [0] h19 (c159 h18) k))
theorem c163{qq q0_l q0_i q0_at q0_bad r}(h:e163 qq q0_l q0_i q0_at q0_bad=some r):K163 q0_l q0_i q0_at q0_bad r Ct:=a163 _ _ _ _ _ _ h
def e112(qq:Nat)(q0_l:List TokenToken)(q0_i q0_at q0_bad:Int):Option (TreeNode×Int×Int×Int):=
 e70 qq q0_l q0_i q0_at q0_bad 0>>=fun r1=>
 e163 qq q0_l q0_i q0_at q0_bad>>=fun r3=>
 e162 qq q0_l r3.2.1 r3.2.2.1 r3.2.2.2 r3.1 r1.at_>>=fun r5=>
 some (r5.1,r3.2.1,r5.2.1,r5.2.2)
abbrev K112 (q0_l:List TokenToken) (q0_i q0_at q0_bad:Int) (r:TreeNode×Int×Int×Int) (C:Cf):Prop:=C 112 [.cells [slv tokenTokenL q0_l .no,ai q0_i,ai q0_at,ai q0_bad]] [.mp 0 0] (treeNodeA r.1) [.cells [slv tokenTokenL q0_l .no,ai r.2.1,ai r.2.2.1,ai r.2.2.2]] 0
theorem q112:Qf 112 Tryz.f112:=⟨Tryz.func112,by kernel_rfl⟩
theorem k112{q0_l q0_i q0_at q0_bad r}(h:K112 q0_l q0_i q0_at q0_bad r Ci):K112 q0_l q0_i q0_at q0_bad r Ct:=⟨h,⟨(lz rfl),tv⟩,(forall_cons ⟨⟨tv,dTokenToken _⟩,tv,tv,tv,tv⟩ forall_nil),⟨tv,tv,tv,tv,dTreeNode _,tv⟩,(forall_cons ⟨dTokenToken _,tv,tv,tv,tv⟩ forall_nil)⟩
theorem c112{qq q0_l q0_i q0_at q0_bad r}(h:e112 qq q0_l q0_i q0_at q0_bad=some r):K112 q0_l q0_i q0_at q0_bad r Ct:=by
 unfold e112 at h
 obtain⟨r1,h2,h⟩:=obind h
 obtain⟨r3,h4,h⟩:=obind h
 obtain⟨r5,h6,h⟩:=obind h
 obtain rfl:=sj h
 exact k112 (tF q112 1 [0] (oD (dTreeNode r5.1.sub_)<|oD (dTokenToken q0_l)<|oC 0 [0] (c162 h6)<|oC 0 [0] (c163 h4)<|oC 0 [0] (c70 h2) o0))
def e161(qq:Nat)(q0_l:List TokenToken)(q0_i q0_at q0_bad:Int):Option (TreeBind×Int×Int×Int):=
 e70 qq q0_l q0_i q0_at q0_bad 0>>=fun r1=>
 e107 qq q0_l q0_i q0_at q0_bad>>=fun r3=>
 e111 qq q0_l r3.2.1 r3.2.2.1 r3.2.2.2 (⟨#[58]⟩:ByteArray)>>=fun r5=>
 e112 qq q0_l r5.1 r5.2.1 r5.2.2>>=fun r7=>
 some ((TreeBind.mk r3.1 r1.at_ r7.1),r7.2.1,r7.2.2.1,r7.2.2.2)
abbrev K161 (q0_l:List TokenToken) (q0_i q0_at q0_bad:Int) (r:TreeBind×Int×Int×Int) (C:Cf):Prop:=C 161 [.cells [slv tokenTokenL q0_l .no,ai q0_i,ai q0_at,ai q0_bad]] [.mp 0 0] (treeBindA r.1) [.cells [slv tokenTokenL q0_l .no,ai r.2.1,ai r.2.2.1,ai r.2.2.2]] 0
theorem q161:Qf 161 Tryz.f161:=⟨Tryz.func161,by kernel_rfl⟩
theorem k161{q0_l q0_i q0_at q0_bad r}(h:K161 q0_l q0_i q0_at q0_bad r Ci):K161 q0_l q0_i q0_at q0_bad r Ct:=⟨h,⟨(lz rfl),tv⟩,(forall_cons ⟨⟨tv,dTokenToken _⟩,tv,tv,tv,tv⟩ forall_nil),⟨tv,tv,tv,tv,tv,tv,dTreeNode _,tv⟩,(forall_cons ⟨dTokenToken _,tv,tv,tv,tv⟩ forall_nil)⟩
theorem c161{qq q0_l q0_i q0_at q0_bad r}(h:e161 qq q0_l q0_i q0_at q0_bad=some r):K161 q0_l q0_i q0_at q0_bad r Ct:=by
 unfold e161 at h
 obtain⟨r1,h2,h⟩:=obind h
 obtain⟨r3,h4,h⟩:=obind h
 obtain⟨r5,h6,h⟩:=obind h
 obtain⟨r7,h8,h⟩:=obind h
 obtain rfl:=sj h
 exact k161 (tF q161 3 [0] (oD (dTreeNode r7.1.sub_)<|oD (dTokenToken q0_l)<|oC 0 [0] (c112 h8)<|oC 1 [0] (c111 h6)<|oC 0 [0] (c107 h4)<|oC 0 [0] (c70 h2) o0))
def e115(qq:Nat)(q0_l:List TokenToken)(q0_i q0_at q0_bad:Int):Option (TreeBind×Int×Int×Int):=
 e161 qq q0_l q0_i q0_at q0_bad>>=fun r1=>
 e111 qq q0_l r1.2.1 r1.2.2.1 r1.2.2.2 (⟨#[59]⟩:ByteArray)>>=fun r3=>
 some (r1.1,r3.1,r3.2.1,r3.2.2)
abbrev K115 (q0_l:List TokenToken) (q0_i q0_at q0_bad:Int) (r:TreeBind×Int×Int×Int) (C:Cf):Prop:=C 115 [.cells [slv tokenTokenL q0_l .no,ai q0_i,ai q0_at,ai q0_bad]] [.mp 0 0] (treeBindA r.1) [.cells [slv tokenTokenL q0_l .no,ai r.2.1,ai r.2.2.1,ai r.2.2.2]] 0
theorem q115:Qf 115 Tryz.f115:=⟨Tryz.func115,by kernel_rfl⟩
theorem k115{q0_l q0_i q0_at q0_bad r}(h:K115 q0_l q0_i q0_at q0_bad r Ci):K115 q0_l q0_i q0_at q0_bad r Ct:=⟨h,⟨(lz rfl),tv⟩,(forall_cons ⟨⟨tv,dTokenToken _⟩,tv,tv,tv,tv⟩ forall_nil),⟨tv,tv,tv,tv,tv,tv,dTreeNode _,tv⟩,(forall_cons ⟨dTokenToken _,tv,tv,tv,tv⟩ forall_nil)⟩
theorem c115{qq q0_l q0_i q0_at q0_bad r}(h:e115 qq q0_l q0_i q0_at q0_bad=some r):K115 q0_l q0_i q0_at q0_bad r Ct:=by
 unfold e115 at h
 obtain⟨r1,h2,h⟩:=obind h
 obtain⟨r3,h4,h⟩:=obind h
 obtain rfl:=sj h
 exact k115 (tF q115 2 [0] (oD (dTreeNode r1.1.type_.sub_)<|oD (dTokenToken q0_l)<|oC 1 [0] (c111 h4)<|oC 0 [0] (c161 h2) o0))
def e108vaaoLap:Nat->(List TokenToken)->Int->(List TreeBind)->Int->Int->Int->Option (List TreeBind×Int×Int×Int)
 |0,_,_,_,_,_,_=>none
 |qq+1,q0,p1,v9,vb0_1,vb0_2,vb0_3=>
 if vb0_3==0 then
 e114 qq q0 vb0_1 vb0_2 vb0_3>>=fun r2=>
 if r2 then
 if decide ((List.length v9:Int)≥p1)then
 none
 else
 e115 qq q0 vb0_1 vb0_2 vb0_3>>=fun r10=>
 gapp 88 v9 [r10.1]>>=fun l12=>
 e108vaaoLap qq q0 p1 l12 r10.2.1 r10.2.2.1 r10.2.2.2
 else
 some (v9,vb0_1,vb0_2,vb0_3)
 else
 none
def e108vaao(qq:Nat)(q0:List TokenToken)(q1 q2 q3 p1:Int):Option (List TreeBind×Int×Int×Int):=
 e108vaaoLap qq q0 p1 [] q1 q2 q3
def g108vaaoLapE0(j:Nat->Value)(q0:List TokenToken)(p1:Int)(v9:List TreeBind)(vb0_1 vb0_2 vb0_3:Int):=sp j 34 0 [(0,.mp 0 0),(1,ai p1),(2,.clo 114 [.mp 0 0] []),(3,.clo 115 [.mp 0 0] []),(9,slv treeBindL v9 (.st 0 7))]
def g108vaaoLapS0(q0:List TokenToken)(p1:Int)(v9:List TreeBind)(vb0_1 vb0_2 vb0_3:Int):LSt:=⟨[(0,.cells [slv tokenTokenL q0 .no,ai vb0_1,ai vb0_2,ai vb0_3])],1,[0],1,[]⟩
abbrev K108vaao (q0:List TokenToken) (q1 q2 q3 p1:Int) (r:List TreeBind×Int×Int×Int) (C:Cf):Prop:=C 108 [.cells [slv tokenTokenL q0 .no,ai q1,ai q2,ai q3]] [.mp 0 0,ai p1,.clo 114 [.mp 0 0] [],.clo 115 [.mp 0 0] []] (.sl (flat treeBindL r.1) (List.length r.1) .no) [.cells [slv tokenTokenL q0 .no,ai r.2.1,ai r.2.2.1,ai r.2.2.2]] 0
theorem q108vaao:Qf 108 Tryz.f108:=⟨Tryz.func108,by kernel_rfl⟩
theorem k108vaao{q0 q1 q2 q3 p1 r}(h:K108vaao q0 q1 q2 q3 p1 r Ci):K108vaao q0 q1 q2 q3 p1 r Ct:=⟨h,⟨(lz rfl),tv,⟨⟨(lz rfl),tv⟩,tv⟩,⟨⟨(lz rfl),tv⟩,tv⟩,tv⟩,(forall_cons ⟨⟨tv,dTokenToken _⟩,tv,tv,tv,tv⟩ forall_nil),dTreeBind _,(forall_cons ⟨dTokenToken _,tv,tv,tv,tv⟩ forall_nil)⟩
theorem l108vaaoLap:∀qq:Nat,(∀q0 p1 v9 vb0_1 vb0_2 vb0_3 r,e108vaaoLap qq q0 p1 v9 vb0_1 vb0_2 vb0_3=some r->(∀j,Dl Tryz.prog 1 (inn (inn (lft (rgt (rgt (bod Tryz.f108)))))) (g108vaaoLapE0 j q0 p1 v9 vb0_1 vb0_2 vb0_3) (g108vaaoLapS0 q0 p1 v9 vb0_1 vb0_2 vb0_3) (frameQ Tryz.prog 1 (FinQ Tryz.prog 1 Tryz.f108 (.sl (flat treeBindL r.1) (List.length r.1) .no) [.cells [slv tokenTokenL q0 .no,ai r.2.1,ai r.2.2.1,ai r.2.2.2]] 0) [.blk 0,.seq (rgt (rgt (rgt (bod Tryz.f108))))]))):=by
 intro qq
 induction qq with
 |zero=>
  exact fun _ _ _ _ _ _ _ h=>nn h
 |succ qq ih=>
  intro q0 p1 v9 vb0_1 vb0_2 vb0_3 r h
  rw[e108vaaoLap]at h
  obtain⟨h1,h⟩:=spT h
  obtain⟨r2,h3,h⟩:=obind h
  have k:=oB 1 h1 o0
  rcases spl h with⟨h4,h⟩|⟨h4,h⟩
  have k:=oK 0 [0] h4 (c114 h3) k
  obtain⟨h5,h⟩:=splF h
  obtain⟨r10,h11,h⟩:=obind h
  obtain⟨l12,h13,h⟩:=obind h
  exact fun j=>lH 0 [] [0] [1] [0,1,2,3,9] (oD (dTreeBind l12)<|oD (dTokenToken q0)<|oP 1 (apS56 h13 (by simp))<|oC 0 [0] (c115 h11)<|oB 1 h5 k) (ih _ _ _ _ _ _ _ h)
  obtain rfl:=sj h
  exact fun j=>lF 0 [0] (oD (dTreeBind v9)<|oD (dTokenToken q0)<|oK 0 [0] h4 (c114 h3) k)
theorem c108vaao{qq q0 q1 q2 q3 p1 r}(h:e108vaao qq q0 q1 q2 q3 p1=some r):K108vaao q0 q1 q2 q3 p1 r Ct:=by
 unfold e108vaao at h
 exact k108vaao (tH q108vaao 0 [(none,9,7)] [0] [0] [0,1,2,3,9] (oD (dTreeBind ([]:List TreeBind))<|oD (dTokenToken q0) o0) (l108vaaoLap _ _ _ _ _ _ _ _ h))
def e109(qq:Nat)(q0_l:List TokenToken)(q0_i q0_at q0_bad:Int):Option (Bool):=
 e159 qq q0_l q0_i q0_at q0_bad 0 (⟨#[40]⟩:ByteArray)>>=fun r1=>
 some r1
abbrev K109 (q0_l:List TokenToken) (q0_i q0_at q0_bad:Int) (r:Bool) (C:Cf):Prop:=C 109 [.cells [slv tokenTokenL q0_l .no,ai q0_i,ai q0_at,ai q0_bad]] [.mp 0 0] (ab r) [.cells [slv tokenTokenL q0_l .no,ai q0_i,ai q0_at,ai q0_bad]] 0
theorem q109:Qf 109 Tryz.f109:=⟨Tryz.func109,by kernel_rfl⟩
theorem k109{q0_l q0_i q0_at q0_bad r}(h:K109 q0_l q0_i q0_at q0_bad r Ci):K109 q0_l q0_i q0_at q0_bad r Ct:=⟨h,⟨(lz rfl),tv⟩,(forall_cons ⟨⟨tv,dTokenToken _⟩,tv,tv,tv,tv⟩ forall_nil),tv,(forall_cons ⟨dTokenToken _,tv,tv,tv,tv⟩ forall_nil)⟩
theorem c109{qq q0_l q0_i q0_at q0_bad r}(h:e109 qq q0_l q0_i q0_at q0_bad=some r):K109 q0_l q0_i q0_at q0_bad r Ct:=by
 unfold e109 at h
 obtain⟨r1,h2,h⟩:=obind h
 obtain rfl:=sj h
 exact k109 (tF q109 0 [0] (oD (dTokenToken q0_l)<|oC 0 [0] (c159 h2) o0))
def e108vaaqLap(qq:Nat)(q0:List TokenToken)(p1:Int)(v9:List TreeBind)(vb0_1 vb0_2 vb0_3:Int):Option (List TreeBind×Int×Int×Int):=
 if vb0_3==0 then
 e109 qq q0 vb0_1 vb0_2 vb0_3>>=fun r2=>
 if r2 then
 none
 else
 some (v9,vb0_1,vb0_2,vb0_3)
 else
 none
def e108vaaq(qq:Nat)(q0:List TokenToken)(q1 q2 q3 p1:Int):Option (List TreeBind×Int×Int×Int):=
 e108vaaqLap qq q0 p1 [] q1 q2 q3
def g108vaaqLapE0(j:Nat->Value)(q0:List TokenToken)(p1:Int)(v9:List TreeBind)(vb0_1 vb0_2 vb0_3:Int):=sp j 34 0 [(0,.mp 0 0),(1,ai p1),(2,.clo 109 [.mp 0 0] []),(3,.clo 110 [.mp 0 0] []),(9,slv treeBindL v9 (.st 0 7))]
def g108vaaqLapS0(q0:List TokenToken)(p1:Int)(v9:List TreeBind)(vb0_1 vb0_2 vb0_3:Int):LSt:=⟨[(0,.cells [slv tokenTokenL q0 .no,ai vb0_1,ai vb0_2,ai vb0_3])],1,[0],1,[]⟩
abbrev K108vaaq (q0:List TokenToken) (q1 q2 q3 p1:Int) (r:List TreeBind×Int×Int×Int) (C:Cf):Prop:=C 108 [.cells [slv tokenTokenL q0 .no,ai q1,ai q2,ai q3]] [.mp 0 0,ai p1,.clo 109 [.mp 0 0] [],.clo 110 [.mp 0 0] []] (.sl (flat treeBindL r.1) (List.length r.1) .no) [.cells [slv tokenTokenL q0 .no,ai r.2.1,ai r.2.2.1,ai r.2.2.2]] 0
theorem q108vaaq:Qf 108 Tryz.f108:=⟨Tryz.func108,by kernel_rfl⟩
theorem k108vaaq{q0 q1 q2 q3 p1 r}(h:K108vaaq q0 q1 q2 q3 p1 r Ci):K108vaaq q0 q1 q2 q3 p1 r Ct:=⟨h,⟨(lz rfl),tv,⟨⟨(lz rfl),tv⟩,tv⟩,⟨⟨(lz rfl),tv⟩,tv⟩,tv⟩,(forall_cons ⟨⟨tv,dTokenToken _⟩,tv,tv,tv,tv⟩ forall_nil),dTreeBind _,(forall_cons ⟨dTokenToken _,tv,tv,tv,tv⟩ forall_nil)⟩
theorem l108vaaqLap(qq q0 p1 v9 vb0_1 vb0_2 vb0_3 r)(h:e108vaaqLap qq q0 p1 v9 vb0_1 vb0_2 vb0_3=some r):(∀j,Dl Tryz.prog 1 (inn (inn (lft (rgt (rgt (bod Tryz.f108)))))) (g108vaaqLapE0 j q0 p1 v9 vb0_1 vb0_2 vb0_3) (g108vaaqLapS0 q0 p1 v9 vb0_1 vb0_2 vb0_3) (frameQ Tryz.prog 1 (FinQ Tryz.prog 1 Tryz.f108 (.sl (flat treeBindL r.1) (List.length r.1) .no) [.cells [slv tokenTokenL q0 .no,ai r.2.1,ai r.2.2.1,ai r.2.2.2]] 0) [.blk 0,.seq (rgt (rgt (rgt (bod Tryz.f108))))])):=by
 unfold e108vaaqLap at h
 obtain⟨h1,h⟩:=spT h
 obtain⟨r2,h3,h⟩:=obind h
 have k:=oB 1 h1 o0
 obtain⟨h4,h⟩:=splF h
 obtain rfl:=sj h
 exact fun j=>lF 0 [0] (oD (dTreeBind v9)<|oD (dTokenToken q0)<|oK 0 [0] h4 (c109 h3) k)
theorem c108vaaq{qq q0 q1 q2 q3 p1 r}(h:e108vaaq qq q0 q1 q2 q3 p1=some r):K108vaaq q0 q1 q2 q3 p1 r Ct:=by
 unfold e108vaaq at h
 exact k108vaaq (tH q108vaaq 0 [(none,9,7)] [0] [0] [0,1,2,3,9] (oD (dTreeBind ([]:List TreeBind))<|oD (dTokenToken q0) o0) (l108vaaqLap qq _ _ _ _ _ _ _ h))
def e71(qq:Nat)(q0_l:List TokenToken)(q0_i q0_at q0_bad:Int):Option (TreeDecl×Int×Int×Int):=
 e105 qq q0_l q0_i q0_at q0_bad>>=fun r1=>
 e70 qq q0_l q0_i q0_at q0_bad 0>>=fun r3=>
 if r1==0 then
 none
 else
 e107 qq q0_l (w64 (q0_i+1)) q0_at q0_bad>>=fun r8=>
 if r1 != 3 then
 e108vaaq qq q0_l r8.2.1 r8.2.2.1 r8.2.2.2 24>>=fun r11=>
 e111 qq q0_l r11.2.1 r11.2.2.1 r11.2.2.2 (⟨#[58]⟩:ByteArray)>>=fun r13=>
 e112 qq q0_l r13.1 r13.2.1 r13.2.2>>=fun r15=>
 e111 qq q0_l r15.2.1 r15.2.2.1 r15.2.2.2 (⟨#[123]⟩:ByteArray)>>=fun r17=>
 if r1==3 then
 none
 else
 e108vaao qq q0_l r17.1 r17.2.1 r17.2.2 16>>=fun r24=>
 e111 qq q0_l r24.2.1 r24.2.2.1 r24.2.2.2 (⟨#[125]⟩:ByteArray)>>=fun r26=>
 some ((TreeDecl.mk r1 r3.at_ r8.1 r11.1 r15.1 r24.1 []),r26.1,r26.2.1,r26.2.2)
 else
 none
abbrev K71 (q0_l:List TokenToken) (q0_i q0_at q0_bad:Int) (r:TreeDecl×Int×Int×Int) (C:Cf):Prop:=C 71 [.cells [slv tokenTokenL q0_l .no,ai q0_i,ai q0_at,ai q0_bad]] [.mp 0 0] (treeDeclA r.1) [.cells [slv tokenTokenL q0_l .no,ai r.2.1,ai r.2.2.1,ai r.2.2.2]] 0
theorem q71:Qf 71 Tryz.f71:=⟨Tryz.func71,by kernel_rfl⟩
theorem k71{q0_l q0_i q0_at q0_bad r}(h:K71 q0_l q0_i q0_at q0_bad r Ci):K71 q0_l q0_i q0_at q0_bad r Ct:=⟨h,⟨(lz rfl),tv⟩,(forall_cons ⟨⟨tv,dTokenToken _⟩,tv,tv,tv,tv⟩ forall_nil),⟨tv,tv,tv,dTreeBind _,tv,tv,tv,tv,dTreeNode _,dTreeBind _,dTreeRow _,tv⟩,(forall_cons ⟨dTokenToken _,tv,tv,tv,tv⟩ forall_nil)⟩
theorem c71{qq q0_l q0_i q0_at q0_bad r}(h:e71 qq q0_l q0_i q0_at q0_bad=some r):K71 q0_l q0_i q0_at q0_bad r Ct:=by
 unfold e71 at h
 obtain⟨r1,h2,h⟩:=obind h
 obtain⟨r3,h4,h⟩:=obind h
 have k:=oC 0 [0] (c70 h4)<|oC 0 [0] (c105 h2) o0
 obtain⟨h5,h⟩:=splF h
 obtain⟨r8,h9,h⟩:=obind h
 have k:=oC 3 [0] (c107 h9)<|oB 2 h5 k
 obtain⟨h10,h⟩:=spT h
 obtain⟨r11,h12,h⟩:=obind h
 obtain⟨r13,h14,h⟩:=obind h
 obtain⟨r15,h16,h⟩:=obind h
 obtain⟨r17,h18,h⟩:=obind h
 have k:=oC 1 [0] (c111 h18)<|oC 0 [0] (c112 h16)<|oC 1 [0] (c111 h14)<|oC 0 [0] (c108vaaq h12)<|oB 2 h10 k
 obtain⟨h19,h⟩:=splF h
 obtain⟨r24,h25,h⟩:=obind h
 obtain⟨r26,h27,h⟩:=obind h
 obtain rfl:=sj h
 exact k71 (tF q71 2 [0] (oD (dTreeRow ([]:List TreeRow))<|oD (dTreeBind r24.1)<|oD (dTreeNode r15.1.sub_)<|oD (dTreeBind r11.1)<|oD (dTokenToken q0_l)<|oC 1 [0] (c111 h27)<|oC 0 [0] (c108vaao h25)<|oB 1 h19 k))
def e49Lar:Nat->ByteArray->(List TokenToken×Int×Int×Int)->(List TreeDecl)->Int->Int->Int->Option (List TreeDecl×Int×Int)
 |0,_,_,_,_,_,_=>none
 |qq+1,p0,r1,v6,vb0_1,vb0_2,vb0_3=>
 if vb0_3==0 then
 e70 qq r1.1 vb0_1 vb0_2 vb0_3 0>>=fun r4=>
 if r4.kind_ != 5 then
 e71 qq r1.1 vb0_1 vb0_2 vb0_3>>=fun r7=>
 gapp 168 v6 [r7.1]>>=fun l9=>
 e49Lar qq p0 r1 l9 r7.2.1 r7.2.2.1 r7.2.2.2
 else
 if vb0_3 != 0 then
 none
 else
 some (v6,(p0.size:Int),0)
 else
 none
def e49(qq:Nat)(p0:ByteArray):Option (List TreeDecl×Int×Int):=
 e69 qq p0>>=fun r1=>
 e49Lar qq p0 r1 [] r1.2.1 r1.2.2.1 r1.2.2.2
def g49LarE0(j:Nat->Value)(p0:ByteArray)(r1:List TokenToken×Int×Int×Int)(v6:List TreeDecl)(vb0_1 vb0_2 vb0_3:Int):=sp j 41 0 [(0,at' p0),(5,.mp 0 0),(6,slv treeDeclL v6 (.st 0 11))]
def g49LarS0(p0:ByteArray)(r1:List TokenToken×Int×Int×Int)(v6:List TreeDecl)(vb0_1 vb0_2 vb0_3:Int):LSt:=⟨[(0,.cells [slv tokenTokenL r1.1 .no,ai vb0_1,ai vb0_2,ai vb0_3])],1,[0],1,[]⟩
abbrev K49 (p0:ByteArray) (r:List TreeDecl×Int×Int) (C:Cf):Prop:=C 49 [] [at' p0] (.tup [.sl (flat treeDeclL r.1) (List.length r.1) .no,ai r.2.1,ai r.2.2]) [] 0
theorem q49:Qf 49 Tryz.f49:=⟨Tryz.func49,by kernel_rfl⟩
theorem k49{p0 r}(h:K49 p0 r Ci):K49 p0 r Ct:=⟨h,⟨tv,tv⟩,forall_nil,⟨dTreeDecl _,tv,tv,tv⟩,forall_nil⟩
theorem l49Lar:∀qq:Nat,(∀p0 r1 v6 vb0_1 vb0_2 vb0_3 r,e49Lar qq p0 r1 v6 vb0_1 vb0_2 vb0_3=some r->(∀j,Dl Tryz.prog 0 (inn (inn (lft (rgt (rgt (rgt (bod Tryz.f49))))))) (g49LarE0 j p0 r1 v6 vb0_1 vb0_2 vb0_3) (g49LarS0 p0 r1 v6 vb0_1 vb0_2 vb0_3) (frameQ Tryz.prog 0 (FinQ Tryz.prog 0 Tryz.f49 (.tup [.sl (flat treeDeclL r.1) (List.length r.1) .no,ai r.2.1,ai r.2.2]) [] 0) [.blk 0,.seq (rgt (rgt (rgt (rgt (bod Tryz.f49)))))]))):=by
 intro qq
 induction qq with
 |zero=>
  exact fun _ _ _ _ _ _ _ h=>nn h
 |succ qq ih=>
  intro p0 r1 v6 vb0_1 vb0_2 vb0_3 r h
  rw[e49Lar]at h
  obtain⟨h3,h⟩:=spT h
  obtain⟨r4,h5,h⟩:=obind h
  have k:=oC 0 [0] (c70 h5)<|oB 1 h3 o0
  rcases spl h with⟨h6,h⟩|⟨h6,h⟩
  obtain⟨r7,h8,h⟩:=obind h
  obtain⟨l9,h10,h⟩:=obind h
  exact fun j=>lH 0 [] [0] [1] [0,5,6] (oD (dTreeDecl l9)<|oD (dTokenToken r1.1)<|oP 1 (apS105 h10 (by simp))<|oC 0 [0] (c71 h8)<|oB 0 h6 k) (ih _ _ _ _ _ _ _ h)
  have k:=oB 0 h6 k
  obtain⟨h11,h⟩:=splF h
  obtain rfl:=sj h
  exact fun j=>lF 1 [] (oD (dTreeDecl v6)<|oB 1 h11 k)
theorem c49{qq p0 r}(h:e49 qq p0=some r):K49 p0 r Ct:=by
 unfold e49 at h
 obtain⟨r1,h2,h⟩:=obind h
 exact k49 (tH q49 0 [(none,6,11)] [0] [0] [0,5,6] (oD (dTreeDecl ([]:List TreeDecl))<|oD (dTokenToken r1.1)<|oC 0 [] (c69 h2) o0) (l49Lar _ _ _ _ _ _ _ _ h))
def e18vaas(qq:Nat)(q0 q1 p1:Int):Option (Int):=
 some p1
abbrev K18vaas (q0 q1 p1 r:Int) (C:Cf):Prop:=C 18 [.cells [ai q0,ai q1]] [.mp 0 0,ai p1] (.tup []) [.cells [ai r,ai q1]] 0
theorem q18vaas:Qf 18 Tryz.f18:=⟨Tryz.func18,by kernel_rfl⟩
theorem k18vaas{q0 q1 p1 r}(h:K18vaas q0 q1 p1 r Ci):K18vaas q0 q1 p1 r Ct:=⟨h,⟨(lz rfl),tv,tv⟩,(forall_cons ⟨tv,tv,tv⟩ forall_nil),tv,(forall_cons ⟨tv,tv,tv⟩ forall_nil)⟩
theorem c18vaas{qq q0 q1 p1 r}(h:e18vaas qq q0 q1 p1=some r):K18vaas q0 q1 p1 r Ct:=by
 unfold e18vaas at h
 obtain rfl:=sj h
 exact k18vaas (tF q18vaas 1 [0] (o0))
def e5(qq:Nat)(p0:Int):Option (Int×Int×Int):=
 if decide (p0<0)then
 none
 else
 if decide (p0>1048576)then
 none
 else
 e18vaas qq 0 0 p0>>=fun r3=>
 some (0,r3,0)
abbrev K5 (p0:Int) (r:Int×Int×Int) (C:Cf):Prop:=C 5 [] [ai p0] (.tup [.mp 0 0,ai r.1]) [.cells [ai r.2.1,ai r.2.2]] 0
theorem q5:Qf 5 Tryz.f5:=⟨Tryz.func5,by kernel_rfl⟩
theorem k5{p0 r}(h:K5 p0 r Ci):K5 p0 r Ct:=⟨h,⟨tv,tv⟩,forall_nil,⟨(lz rfl),tv,tv⟩,(forall_cons ⟨tv,tv,tv⟩ forall_nil)⟩
theorem c5{qq p0 r}(h:e5 qq p0=some r):K5 p0 r Ct:=by
 unfold e5 at h
 obtain⟨h1,h⟩:=splF h
 have k:=oB 0 h1 o0
 obtain⟨h2,h⟩:=splF h
 obtain⟨r3,h4,h⟩:=obind h
 obtain rfl:=sj h
 exact k5 (tF q5 0 [0] (oC 0 [0] (c18vaas h4)<|oB 0 h2 k))
def e31Lat:Nat->(List ByteArray)->Int->(List (ByteArray×Int))->Option (Bool)
 |0,_,_,_=>none
 |qq+1,p0,v9,vb0_0=>
 if decide (v9<(List.length p0:Int))then
 gidx p0 v9>>=fun x2=>
 if decide ((mget vb0_0 x2)>0)then
 none
 else
 e31Lat qq p0 (w64 (v9+1)) (mset vb0_0 x2 (w64 ((mget vb0_0 x2)+1)))
 else
 some true
def e31(qq:Nat)(p0:List ByteArray):Option (Bool):=
 e31Lat qq p0 0 ([]:List (ByteArray×Int))
def g31LatE0(j:Nat->Value)(p0:List ByteArray)(v9:Int)(vb0_0:List (ByteArray×Int)):=sp j 22 0 [(3,.obj 0),(7,slv strC p0 .no),(8,ai (List.length p0:Int)),(9,ai v9)]
def g31LatS0(p0:List ByteArray)(v9:Int)(vb0_0:List (ByteArray×Int)):LSt:=⟨[(0,smap vb0_0)],1,[],0,[]⟩
abbrev K31 (p0:List ByteArray) (r:Bool) (C:Cf):Prop:=C 31 [] [slv strC p0 .no] (ab r) [] 0
theorem q31:Qf 31 Tryz.f31:=⟨Tryz.func31,by kernel_rfl⟩
theorem k31{p0 r}(h:K31 p0 r Ci):K31 p0 r Ct:=⟨h,⟨⟨tv,dS _⟩,tv⟩,forall_nil,tv,forall_nil⟩
theorem l31Lat:∀qq:Nat,(∀p0 v9 vb0_0 r,e31Lat qq p0 v9 vb0_0=some r->(∀j,Dl Tryz.prog 0 (inn (inn (rgt (lft (rgt (rgt (bod Tryz.f31))))))) (g31LatE0 j p0 v9 vb0_0) (g31LatS0 p0 v9 vb0_0) (frameQ Tryz.prog 0 (FinQ Tryz.prog 0 Tryz.f31 (ab r) [] 0) [.blk 0,.seq (rgt (rgt (rgt (bod Tryz.f31))))]))):=by
 intro qq
 induction qq with
 |zero=>
  exact fun _ _ _ _ h=>nn h
 |succ qq ih=>
  intro p0 v9 vb0_0 r h
  rw[e31Lat]at h
  rcases spl h with⟨h1,h⟩|⟨h1,h⟩
  obtain⟨x2,h3,h⟩:=obind h
  have k:=oL 1 (lk109 vb0_0 x2)<|oA 0 (ix63 (o:=.no) h3)<|oB 0 h1 o0
  obtain⟨h4,h⟩:=splF h
  exact fun j=>lH 1 [] [0] [] [3,7,8,9] (oD (dS p0)<|oU 1 (mu109 vb0_0 x2 (w64 ((mget vb0_0 x2)+1)))<|oL 0 (lk109 vb0_0 x2)<|oB 0 h4 k) (ih _ _ _ _ h)
  obtain rfl:=sj h
  exact fun j=>lF 0 [] (oB 0 h1 o0)
theorem c31{qq p0 r}(h:e31 qq p0=some r):K31 p0 r Ct:=by
 unfold e31 at h
 exact k31 (tH q31 1 [] [0] [] [3,7,8,9] (oD (dS p0) o0) (l31Lat _ _ _ _ _ h))
def e32Lau:Nat->(List Ent)->(List ByteArray)->Int->Option (List ByteArray)
 |0,_,_,_=>none
 |qq+1,p0,v3,v8=>
 if decide (v8<(List.length p0:Int))then
 gidx p0 v8>>=fun x2=>
 gapp 16 v3 [x2.name]>>=fun l4=>
 e32Lau qq p0 l4 (w64 (v8+1))
 else
 some v3
def e32(qq:Nat)(p0:List Ent):Option (List ByteArray):=
 e32Lau qq p0 [] 0
def g32LauE0(j:Nat->Value)(p0:List Ent)(v3:List ByteArray)(v8:Int):=sp j 19 0 [(3,slv strC v3 (.st 0 1)),(6,slv entL p0 .no),(7,ai (List.length p0:Int)),(8,ai v8)]
def g32LauS0(p0:List Ent)(v3:List ByteArray)(v8:Int):LSt:=⟨[],0,[0],1,[]⟩
abbrev K32 (p0:List Ent) (r:List ByteArray) (C:Cf):Prop:=C 32 [] [slv entL p0 .no] (slv strC r (.st 0 1)) [] 1
theorem q32:Qf 32 Tryz.f32:=⟨Tryz.func32,by kernel_rfl⟩
theorem k32{p0 r}(h:K32 p0 r Ci):K32 p0 r Ct:=⟨h,⟨⟨tv,dE _⟩,tv⟩,forall_nil,dS _,forall_nil⟩
theorem l32Lau:∀qq:Nat,(∀p0 v3 v8 r,e32Lau qq p0 v3 v8=some r->(∀j,Dl Tryz.prog 0 (inn (inn (rgt (lft (rgt (rgt (bod Tryz.f32))))))) (g32LauE0 j p0 v3 v8) (g32LauS0 p0 v3 v8) (frameQ Tryz.prog 0 (FinQ Tryz.prog 0 Tryz.f32 (slv strC r (.st 0 1)) [] 1) [.blk 0,.seq (rgt (rgt (rgt (bod Tryz.f32))))]))):=by
 intro qq
 induction qq with
 |zero=>
  exact fun _ _ _ _ h=>nn h
 |succ qq ih=>
  intro p0 v3 v8 r h
  rw[e32Lau]at h
  rcases spl h with⟨h1,h⟩|⟨h1,h⟩
  obtain⟨x2,h3,h⟩:=obind h
  obtain⟨l4,h5,h⟩:=obind h
  exact fun j=>lH 1 [] [] [1] [3,6,7,8] (oD (dE p0)<|oD (dS l4)<|oP 4 (apS63 h5 (by simp))<|oA 0 (ix22 (o:=.no) h3)<|oB 0 h1 o0) (ih _ _ _ _ h)
  obtain rfl:=sj h
  exact fun j=>lG 0 [] [] [0] true (oD (dS v3)<|oB 0 h1 o0)
theorem c32{qq p0 r}(h:e32 qq p0=some r):K32 p0 r Ct:=by
 unfold e32 at h
 exact k32 (tH q32 1 [(none,3,1)] [] [0] [3,6,7,8] (oD (dE p0)<|oD (dS ([]:List ByteArray)) o0) (l32Lau _ _ _ _ _ h))
def e174(qq:Nat)(p0:Tm)(p1:Int):Option (Int):=
 if p1==1 then
 if p0.k==3 then
 some 1
 else
 if p0.k==4 then
 some 1
 else
 some 0
 else
 some 0
abbrev K174 (p0:Tm) (p1 r:Int) (C:Cf):Prop:=C 174 [] [tmA p0,ai p1] (ai r) [] 0
theorem q174:Qf 174 Tryz.f174:=⟨Tryz.func174,by kernel_rfl⟩
theorem k174{p0 p1 r}(h:K174 p0 p1 r Ci):K174 p0 p1 r Ct:=⟨h,⟨⟨tv,tv,⟨tv,dT _⟩,tv⟩,tv,tv⟩,forall_nil,tv,forall_nil⟩
theorem c174{qq p0 p1 r}(h:e174 qq p0 p1=some r):K174 p0 p1 r Ct:=by
 unfold e174 at h
 rcases spl h with⟨h1,h⟩|⟨h1,h⟩
 have k:=oB 0 h1 o0
 rcases spl h with⟨h2,h⟩|⟨h2,h⟩
 obtain rfl:=sj h
 exact k174 (tF q174 0 [] (oB 1 h2 k))
 have k:=oB 1 h2 k
 rcases spl h with⟨h3,h⟩|⟨h3,h⟩
 obtain rfl:=sj h
 exact k174 (tF q174 0 [] (oB 1 h3 k))
 obtain rfl:=sj h
 exact k174 (tF q174 0 [] (oB 1 h3 k))
 obtain rfl:=sj h
 exact k174 (tF q174 0 [] (oB 0 h1 o0))
mutual
def e127:Nat->Tm->Int->Option (Int)
 |0,_,_=>none
 |qq+1,p0,p1=>
 if p0.k==1 then
 some (imax 0 (w64 ((w64 (p0.n+1))-p1)))
 else
 e127Lav qq p0 p1 0 0
def e127Lav:Nat->Tm->Int->Int->Int->Option (Int)
 |0,_,_,_,_=>none
 |qq+1,p0,p1,v20,v5=>
 if decide (v20<(List.length p0.sub:Int))then
 gidx p0.sub v20>>=fun x3=>
 e174 qq p0 v20>>=fun r5=>
 e127 qq x3 (w64 (p1+r5))>>=fun r7=>
 e127Lav qq p0 p1 (w64 (v20+1)) (imax v5 r7)
 else
 some v5
end
def g127LavE0(j:Nat->Value)(p0:Tm)(p1 v20 v5:Int):=sp j 36 0 [(1,ai p1),(2,.mp 0 0),(5,ai v5),(18,slv tmCells p0.sub .no),(19,ai (List.length p0.sub:Int)),(20,ai v20)]
def g127LavS0(p0:Tm)(p1 v20 v5:Int):LSt:=⟨[(0,.cells [ai p0.k,ai p0.n,slv tmCells p0.sub .no])],1,[],0,[]⟩
abbrev K127 (p0:Tm) (p1 r:Int) (C:Cf):Prop:=C 127 [] [tmA p0,ai p1] (ai r) [] 0
theorem q127:Qf 127 Tryz.f127:=⟨Tryz.func127,by kernel_rfl⟩
theorem k127{p0 p1 r}(h:K127 p0 p1 r Ci):K127 p0 p1 r Ct:=⟨h,⟨⟨tv,tv,⟨tv,dT _⟩,tv⟩,tv,tv⟩,forall_nil,tv,forall_nil⟩
theorem a127_127Lav:∀qq:Nat,(∀p0 p1 r,e127 qq p0 p1=some r->K127 p0 p1 r Ct)∧(∀p0 p1 v20 v5 r,e127Lav qq p0 p1 v20 v5=some r->(∀j,Dl Tryz.prog 0 (inn (inn (rgt (lft (rgt (rgt (rgt (bod Tryz.f127)))))))) (g127LavE0 j p0 p1 v20 v5) (g127LavS0 p0 p1 v20 v5) (frameQ Tryz.prog 0 (FinQ Tryz.prog 0 Tryz.f127 (ai r) [] 0) [.blk 0,.seq (rgt (rgt (rgt (rgt (bod Tryz.f127)))))]))):=by
 intro qq
 induction qq with
 |zero=>
  exact⟨fun _ _ _ h=>nn h,fun _ _ _ _ _ h=>nn h⟩
 |succ qq ih=>
  obtain⟨ih127,ih127Lav⟩:=ih
  refine⟨?_,?_⟩
  intro p0 p1 r h
  rw[e127]at h
  rcases spl h with⟨h1,h⟩|⟨h1,h⟩
  obtain rfl:=sj h
  exact k127 (tF q127 4 [] (oB 1 h1 o0))
  exact k127 (tH q127 2 [] [0] [] [1,2,5,18,19,20] (oD (dT p0.sub)<|oD (dT p0.sub)<|oB 1 h1 o0) (ih127Lav _ _ _ _ _ h))
  intro p0 p1 v20 v5 r h
  rw[e127Lav]at h
  rcases spl h with⟨h2,h⟩|⟨h2,h⟩
  obtain⟨x3,h4,h⟩:=obind h
  obtain⟨r5,h6,h⟩:=obind h
  obtain⟨r7,h8,h⟩:=obind h
  exact fun j=>lH 2 [] [0] [] [1,2,5,18,19,20] (oD (dT p0.sub)<|oD (dT p0.sub)<|oC 1 [] (ih127 _ _ _ h8)<|oC 4 [] (c174 h6)<|oA 0 (ix29 (o:=.no) h4)<|oB 0 h2 o0) (ih127Lav _ _ _ _ _ h)
  obtain rfl:=sj h
  exact fun j=>lF 0 [] (oB 0 h2 o0)
theorem c127{qq p0 p1 r}(h:e127 qq p0 p1=some r):K127 p0 p1 r Ct:=(a127_127Lav _).1 _ _ _ h
mutual
def e130:Nat->Tm->Int->Int->Option (List Int)
 |0,_,_,_=>none
 |qq+1,p0,p1,p2=>
 if p0.k==p1 then
 gapp 8 ([]:List Int) [p0.n]>>=fun l2=>
 e130Law qq p0 p1 p2 0 l2
 else
 if p0.k==p2 then
 gapp 8 ([]:List Int) [p0.n]>>=fun l5=>
 e130Law qq p0 p1 p2 0 l5
 else
 e130Law qq p0 p1 p2 0 []
def e130Law:Nat->Tm->Int->Int->Int->(List Int)->Option (List Int)
 |0,_,_,_,_,_=>none
 |qq+1,p0,p1,p2,v28,v7=>
 if decide (v28<(List.length p0.sub:Int))then
 gidx p0.sub v28>>=fun x5=>
 e130 qq x5 p1 p2>>=fun r7=>
 gapp 8 v7 r7>>=fun l9=>
 e130Law qq p0 p1 p2 (w64 (v28+1)) l9
 else
 some v7
end
def g130LawE0(j:Nat->Value)(p0:Tm)(p1 p2 v28:Int)(v7:List Int):=sp j 40 0 [(1,ai p1),(2,ai p2),(7,slv intC v7 (.st 0 1)),(26,slv tmCells p0.sub .no),(27,ai (List.length p0.sub:Int)),(28,ai v28)]
def g130LawS0(p0:Tm)(p1 p2 v28:Int)(v7:List Int):LSt:=⟨[],0,[0],1,[]⟩
def g130LawE1(j:Nat->Value)(p0:Tm)(p1 p2 v28:Int)(v7:List Int):=sp j 40 0 [(1,ai p1),(2,ai p2),(7,slv intC v7 .nl),(26,slv tmCells p0.sub .no),(27,ai (List.length p0.sub:Int)),(28,ai v28)]
def g130LawS1(p0:Tm)(p1 p2 v28:Int)(v7:List Int):LSt:=⟨[],0,[],0,[]⟩
abbrev K130 (p0:Tm) (p1 p2:Int) (r:List Int) (C:Cf):Prop:=C 130 [] [tmA p0,ai p1,ai p2] (slv intC r (.st 0 1)) [] 1
theorem q130:Qf 130 Tryz.f130:=⟨Tryz.func130,by kernel_rfl⟩
theorem k130{p0 p1 p2 r}(h:K130 p0 p1 p2 r Ci):K130 p0 p1 p2 r Ct:=⟨h,⟨⟨tv,tv,⟨tv,dT _⟩,tv⟩,tv,tv,tv⟩,forall_nil,dI _,forall_nil⟩
theorem a130_130Law:∀qq:Nat,(∀p0 p1 p2 r,e130 qq p0 p1 p2=some r->K130 p0 p1 p2 r Ct)∧(∀p0 p1 p2 v28 v7 r,e130Law qq p0 p1 p2 v28 v7=some r->(∀j,Dl Tryz.prog 0 (inn (inn (rgt (lft (rgt (rgt (rgt (bod Tryz.f130)))))))) (g130LawE0 j p0 p1 p2 v28 v7) (g130LawS0 p0 p1 p2 v28 v7) (frameQ Tryz.prog 0 (FinQ Tryz.prog 0 Tryz.f130 (slv intC r (.st 0 1)) [] 1) [.blk 0,.seq (rgt (rgt (rgt (rgt (bod Tryz.f130)))))]))∧(∀j,Dl Tryz.prog 0 (inn (inn (rgt (lft (rgt (rgt (rgt (bod Tryz.f130)))))))) (g130LawE1 j p0 p1 p2 v28 v7) (g130LawS1 p0 p1 p2 v28 v7) (frameQ Tryz.prog 0 (FinQ Tryz.prog 0 Tryz.f130 (slv intC r (.st 0 1)) [] 1) [.blk 0,.seq (rgt (rgt (rgt (rgt (bod Tryz.f130)))))]))):=by
 intro qq
 induction qq with
 |zero=>
  exact⟨fun _ _ _ _ h=>nn h,fun _ _ _ _ _ _ h=>nn h⟩
 |succ qq ih=>
  obtain⟨ih130,ih130Law⟩:=ih
  refine⟨?_,?_⟩
  intro p0 p1 p2 r h
  rw[e130]at h
  rcases spl h with⟨h1,h⟩|⟨h1,h⟩
  obtain⟨l2,h3,h⟩:=obind h
  exact k130 (tH q130 2 [] [] [0] [1,2,7,26,27,28] (oD (dT p0.sub)<|oD (dI l2)<|oP 2 (apS32 h3 (by simp))<|oB 1 h1 o0) ((ih130Law _ _ _ _ _ _ h).1))
  have k:=oB 1 h1 o0
  rcases spl h with⟨h4,h⟩|⟨h4,h⟩
  obtain⟨l5,h6,h⟩:=obind h
  exact k130 (tH q130 2 [] [] [0] [1,2,7,26,27,28] (oD (dT p0.sub)<|oD (dI l5)<|oP 2 (apS32 h6 (by simp))<|oB 1 h4 k) ((ih130Law _ _ _ _ _ _ h).1))
  exact k130 (tH q130 2 [] [] [] [1,2,7,26,27,28] (oD (dT p0.sub)<|oD (dI ([]:List Int))<|oB 1 h4 k) ((ih130Law _ _ _ _ _ _ h).2))
  intro p0 p1 p2 v28 v7 r h
  rw[e130Law]at h
  refine⟨?_,?_⟩
  rcases spl h with⟨h4,h⟩|⟨h4,h⟩
  obtain⟨x5,h6,h⟩:=obind h
  obtain⟨r7,h8,h⟩:=obind h
  obtain⟨l9,h10,h⟩:=obind h
  have k:=oC 3 [] (ih130 _ _ _ _ h8)<|oA 0 (ix29 (o:=.no) h6)<|oB 0 h4 o0
  by_cases h11:List.length r7=0
  exact fun j=>lH 1 [] [] [0] [1,2,7,26,27,28] (oD (dT p0.sub)<|oD (dI l9)<|oP 0 (apN32 h10 h11) k) ((ih130Law _ _ _ _ _ _ h).1)
  exact fun j=>lH 1 [] [] [2] [1,2,7,26,27,28] (oD (dT p0.sub)<|oD (dI l9)<|oP 0 (apS32 h10 h11) k) ((ih130Law _ _ _ _ _ _ h).1)
  obtain rfl:=sj h
  exact fun j=>lG 0 [] [] [0] true (oD (dI v7)<|oB 0 h4 o0)
  rcases spl h with⟨h4,h⟩|⟨h4,h⟩
  obtain⟨x5,h6,h⟩:=obind h
  obtain⟨r7,h8,h⟩:=obind h
  obtain⟨l9,h10,h⟩:=obind h
  have k:=oC 3 [] (ih130 _ _ _ _ h8)<|oA 0 (ix29 (o:=.no) h6)<|oB 0 h4 o0
  by_cases h11:List.length r7=0
  exact fun j=>lH 1 [] [] [] [1,2,7,26,27,28] (oD (dT p0.sub)<|oD (dI l9)<|oP 0 (apN32 h10 h11) k) ((ih130Law _ _ _ _ _ _ h).2)
  exact fun j=>lH 1 [] [] [1] [1,2,7,26,27,28] (oD (dT p0.sub)<|oD (dI l9)<|oP 0 (apS32 h10 h11) k) ((ih130Law _ _ _ _ _ _ h).1)
  obtain rfl:=sj h
  exact fun j=>lG 0 [(none,6,1)] [] [0] true (oD (dI v7)<|oB 0 h4 o0)
theorem c130{qq p0 p1 p2 r}(h:e130 qq p0 p1 p2=some r):K130 p0 p1 p2 r Ct:=(a130_130Law _).1 _ _ _ _ h
mutual
def e177:Nat->Tm->Int->Option (Int)
 |0,_,_=>none
 |qq+1,p0,p1=>
 e177Lax qq p0 (w64 (p1+1)) 0
def e177Lax:Nat->Tm->Int->Int->Option (Int)
 |0,_,_,_=>none
 |qq+1,p0,v1,v12=>
 if decide (v12<(List.length p0.sub:Int))then
 gidx p0.sub v12>>=fun x2=>
 if decide (v1>8192)then
 none
 else
 e177 qq x2 v1>>=fun r5=>
 e177Lax qq p0 r5 (w64 (v12+1))
 else
 some v1
end
def g177LaxE0(j:Nat->Value)(p0:Tm)(v1 v12:Int):=sp j 23 0 [(1,ai v1),(10,slv tmCells p0.sub .no),(11,ai (List.length p0.sub:Int)),(12,ai v12)]
def g177LaxS0(p0:Tm)(v1 v12:Int):LSt:=⟨[],0,[],0,[]⟩
abbrev K177 (p0:Tm) (p1 r:Int) (C:Cf):Prop:=C 177 [] [tmA p0,ai p1] (ai r) [] 0
theorem q177:Qf 177 Tryz.f177:=⟨Tryz.func177,by kernel_rfl⟩
theorem k177{p0 p1 r}(h:K177 p0 p1 r Ci):K177 p0 p1 r Ct:=⟨h,⟨⟨tv,tv,⟨tv,dT _⟩,tv⟩,tv,tv⟩,forall_nil,tv,forall_nil⟩
theorem a177_177Lax:∀qq:Nat,(∀p0 p1 r,e177 qq p0 p1=some r->K177 p0 p1 r Ct)∧(∀p0 v1 v12 r,e177Lax qq p0 v1 v12=some r->(∀j,Dl Tryz.prog 0 (inn (inn (rgt (lft (rgt (rgt (bod Tryz.f177))))))) (g177LaxE0 j p0 v1 v12) (g177LaxS0 p0 v1 v12) (frameQ Tryz.prog 0 (FinQ Tryz.prog 0 Tryz.f177 (ai r) [] 0) [.blk 0,.seq (rgt (rgt (rgt (bod Tryz.f177))))]))):=by
 intro qq
 induction qq with
 |zero=>
  exact⟨fun _ _ _ h=>nn h,fun _ _ _ _ h=>nn h⟩
 |succ qq ih=>
  obtain⟨ih177,ih177Lax⟩:=ih
  refine⟨?_,?_⟩
  intro p0 p1 r h
  rw[e177]at h
  exact k177 (tH q177 3 [] [] [] [1,10,11,12] (oD (dT p0.sub) o0) (ih177Lax _ _ _ _ h))
  intro p0 v1 v12 r h
  rw[e177Lax]at h
  rcases spl h with⟨h1,h⟩|⟨h1,h⟩
  obtain⟨x2,h3,h⟩:=obind h
  have k:=oA 0 (ix29 (o:=.no) h3)<|oB 0 h1 o0
  obtain⟨h4,h⟩:=splF h
  obtain⟨r5,h6,h⟩:=obind h
  exact fun j=>lH 1 [] [] [] [1,10,11,12] (oD (dT p0.sub)<|oC 1 [] (ih177 _ _ _ h6)<|oB 2 h4 k) (ih177Lax _ _ _ _ h)
  obtain rfl:=sj h
  exact fun j=>lF 0 [] (oB 0 h1 o0)
theorem c177{qq p0 p1 r}(h:e177 qq p0 p1=some r):K177 p0 p1 r Ct:=(a177_177Lax _).1 _ _ _ h
def e131(qq:Nat)(p0:Tm):Option (Int):=
 e177 qq p0 0>>=fun r1=>
 some r1
abbrev K131 (p0:Tm) (r:Int) (C:Cf):Prop:=C 131 [] [tmA p0] (ai r) [] 0
theorem q131:Qf 131 Tryz.f131:=⟨Tryz.func131,by kernel_rfl⟩
theorem k131{p0 r}(h:K131 p0 r Ci):K131 p0 r Ct:=⟨h,⟨⟨tv,tv,⟨tv,dT _⟩,tv⟩,tv⟩,forall_nil,tv,forall_nil⟩
theorem c131{qq p0 r}(h:e131 qq p0=some r):K131 p0 r Ct:=by
 unfold e131 at h
 obtain⟨r1,h2,h⟩:=obind h
 obtain rfl:=sj h
 exact k131 (tF q131 0 [] (oC 1 [] (c177 h2) o0))
mutual
def e132:Nat->Tm->Int->Option (Int)
 |0,_,_=>none
 |qq+1,p0,p1=>
 if decide (p1>128)then
 none
 else
 e132Lay qq p0 p1 0 p1
def e132Lay:Nat->Tm->Int->Int->Int->Option (Int)
 |0,_,_,_,_=>none
 |qq+1,p0,p1,v15,v5=>
 if decide (v15<(List.length p0.sub:Int))then
 gidx p0.sub v15>>=fun x3=>
 e132 qq x3 (w64 (p1+1))>>=fun r5=>
 e132Lay qq p0 p1 (w64 (v15+1)) (imax v5 r5)
 else
 some v5
end
def g132LayE0(j:Nat->Value)(p0:Tm)(p1 v15 v5:Int):=sp j 27 0 [(1,ai p1),(5,ai v5),(13,slv tmCells p0.sub .no),(14,ai (List.length p0.sub:Int)),(15,ai v15)]
def g132LayS0(p0:Tm)(p1 v15 v5:Int):LSt:=⟨[],0,[],0,[]⟩
abbrev K132 (p0:Tm) (p1 r:Int) (C:Cf):Prop:=C 132 [] [tmA p0,ai p1] (ai r) [] 0
theorem q132:Qf 132 Tryz.f132:=⟨Tryz.func132,by kernel_rfl⟩
theorem k132{p0 p1 r}(h:K132 p0 p1 r Ci):K132 p0 p1 r Ct:=⟨h,⟨⟨tv,tv,⟨tv,dT _⟩,tv⟩,tv,tv⟩,forall_nil,tv,forall_nil⟩
theorem a132_132Lay:∀qq:Nat,(∀p0 p1 r,e132 qq p0 p1=some r->K132 p0 p1 r Ct)∧(∀p0 p1 v15 v5 r,e132Lay qq p0 p1 v15 v5=some r->(∀j,Dl Tryz.prog 0 (inn (inn (rgt (lft (rgt (rgt (rgt (bod Tryz.f132)))))))) (g132LayE0 j p0 p1 v15 v5) (g132LayS0 p0 p1 v15 v5) (frameQ Tryz.prog 0 (FinQ Tryz.prog 0 Tryz.f132 (ai r) [] 0) [.blk 0,.seq (rgt (rgt (rgt (rgt (bod Tryz.f132)))))]))):=by
 intro qq
 induction qq with
 |zero=>
  exact⟨fun _ _ _ h=>nn h,fun _ _ _ _ _ h=>nn h⟩
 |succ qq ih=>
  obtain⟨ih132,ih132Lay⟩:=ih
  refine⟨?_,?_⟩
  intro p0 p1 r h
  rw[e132]at h
  obtain⟨h1,h⟩:=splF h
  exact k132 (tH q132 2 [] [] [] [1,5,13,14,15] (oD (dT p0.sub)<|oB 0 h1 o0) (ih132Lay _ _ _ _ _ h))
  intro p0 p1 v15 v5 r h
  rw[e132Lay]at h
  rcases spl h with⟨h2,h⟩|⟨h2,h⟩
  obtain⟨x3,h4,h⟩:=obind h
  obtain⟨r5,h6,h⟩:=obind h
  exact fun j=>lH 2 [] [] [] [1,5,13,14,15] (oD (dT p0.sub)<|oC 4 [] (ih132 _ _ _ h6)<|oA 0 (ix29 (o:=.no) h4)<|oB 0 h2 o0) (ih132Lay _ _ _ _ _ h)
  obtain rfl:=sj h
  exact fun j=>lF 0 [] (oB 0 h2 o0)
theorem c132{qq p0 p1 r}(h:e132 qq p0 p1=some r):K132 p0 p1 r Ct:=(a132_132Lay _).1 _ _ _ h
def e89(qq:Nat)(p0:Tm):Option (Int):=
 e131 qq p0>>=fun r1=>
 if decide (r1>8192)then
 none
 else
 e132 qq p0 1>>=fun r4=>
 some r4
abbrev K89 (p0:Tm) (r:Int) (C:Cf):Prop:=C 89 [] [tmA p0] (ai r) [] 0
theorem q89:Qf 89 Tryz.f89:=⟨Tryz.func89,by kernel_rfl⟩
theorem k89{p0 r}(h:K89 p0 r Ci):K89 p0 r Ct:=⟨h,⟨⟨tv,tv,⟨tv,dT _⟩,tv⟩,tv⟩,forall_nil,tv,forall_nil⟩
theorem c89{qq p0 r}(h:e89 qq p0=some r):K89 p0 r Ct:=by
 unfold e89 at h
 obtain⟨r1,h2,h⟩:=obind h
 have k:=oC 1 [] (c131 h2) o0
 obtain⟨h3,h⟩:=splF h
 obtain⟨r4,h5,h⟩:=obind h
 obtain rfl:=sj h
 exact k89 (tF q89 0 [] (oC 1 [] (c132 h5)<|oB 0 h3 k))
def e133(qq:Nat)(p0:Tm):Option (Bool):=
 if decide (p0.k<1)then
 some false
 else
 if decide (p0.k>8)then
 none
 else
 gidx ([0,0,0,2,2,2,0,1,0]:List Int) p0.k>>=fun x3=>
 gidx ([0,1048576,7,0,0,0,1048576,1048576,1048576]:List Int) p0.k>>=fun x5=>
 if (List.length p0.sub:Int)==x3 then
 if decide (p0.n≥0)then
 if decide (p0.n≤x5)then
 if p0.k != 7 then
 some true
 else
 gidx p0.sub 0>>=fun x11=>
 some (x11.k==2)
 else
 none
 else
 none
 else
 none
abbrev K133 (p0:Tm) (r:Bool) (C:Cf):Prop:=C 133 [] [tmA p0] (ab r) [] 0
theorem q133:Qf 133 Tryz.f133:=⟨Tryz.func133,by kernel_rfl⟩
theorem k133{p0 r}(h:K133 p0 r Ci):K133 p0 r Ct:=⟨h,⟨⟨tv,tv,⟨tv,dT _⟩,tv⟩,tv⟩,forall_nil,tv,forall_nil⟩
theorem c133{qq p0 r}(h:e133 qq p0=some r):K133 p0 r Ct:=by
 unfold e133 at h
 rcases spl h with⟨h1,h⟩|⟨h1,h⟩
 obtain rfl:=sj h
 exact k133 (tF q133 0 [] (oB 1 h1 o0))
 have k:=oB 1 h1 o0
 obtain⟨h2,h⟩:=splF h
 obtain⟨x3,h4,h⟩:=obind h
 obtain⟨x5,h6,h⟩:=obind h
 have k:=oA 1 (ixArr226 h6 rfl)<|oA 1 (ixArr226 h4 rfl)<|oB 1 h2 k
 obtain⟨h7,h⟩:=spT h
 have k:=oB 2 h7 k
 obtain⟨h8,h⟩:=spT h
 have k:=oB 1 h8 k
 obtain⟨h9,h⟩:=spT h
 have k:=oB 1 h9 k
 rcases spl h with⟨h10,h⟩|⟨h10,h⟩
 obtain rfl:=sj h
 exact k133 (tF q133 0 [] (oB 1 h10 k))
 obtain⟨x11,h12,h⟩:=obind h
 obtain rfl:=sj h
 exact k133 (tF q133 2 [] (oA 1 (ix29 (o:=.no) h12)<|oB 1 h10 k))
mutual
def e90:Nat->Tm->Option (Bool)
 |0,_=>none
 |qq+1,p0=>
 e133 qq p0>>=fun r1=>
 if r1 then
 e90Laz qq p0 0
 else
 some false
def e90Laz:Nat->Tm->Int->Option (Bool)
 |0,_,_=>none
 |qq+1,p0,v11=>
 if decide (v11<(List.length p0.sub:Int))then
 gidx p0.sub v11>>=fun x5=>
 e90 qq x5>>=fun r7=>
 if r7 then
 e90Laz qq p0 (w64 (v11+1))
 else
 none
 else
 some true
end
def g90LazE0(j:Nat->Value)(p0:Tm)(v11:Int):=sp j 19 0 [(9,slv tmCells p0.sub .no),(10,ai (List.length p0.sub:Int)),(11,ai v11)]
def g90LazS0(p0:Tm)(v11:Int):LSt:=⟨[],0,[],0,[]⟩
abbrev K90 (p0:Tm) (r:Bool) (C:Cf):Prop:=C 90 [] [tmA p0] (ab r) [] 0
theorem q90:Qf 90 Tryz.f90:=⟨Tryz.func90,by kernel_rfl⟩
theorem k90{p0 r}(h:K90 p0 r Ci):K90 p0 r Ct:=⟨h,⟨⟨tv,tv,⟨tv,dT _⟩,tv⟩,tv⟩,forall_nil,tv,forall_nil⟩
theorem a90_90Laz:∀qq:Nat,(∀p0 r,e90 qq p0=some r->K90 p0 r Ct)∧(∀p0 v11 r,e90Laz qq p0 v11=some r->(∀j,Dl Tryz.prog 0 (inn (inn (rgt (lft (rgt (rgt (bod Tryz.f90))))))) (g90LazE0 j p0 v11) (g90LazS0 p0 v11) (frameQ Tryz.prog 0 (FinQ Tryz.prog 0 Tryz.f90 (ab r) [] 0) [.blk 0,.seq (rgt (rgt (rgt (bod Tryz.f90))))]))):=by
 intro qq
 induction qq with
 |zero=>
  exact⟨fun _ _ h=>nn h,fun _ _ _ h=>nn h⟩
 |succ qq ih=>
  obtain⟨ih90,ih90Laz⟩:=ih
  refine⟨?_,?_⟩
  intro p0 r h
  rw[e90]at h
  obtain⟨r1,h2,h⟩:=obind h
  rcases spl h with⟨h3,h⟩|⟨h3,h⟩
  exact k90 (tH q90 3 [] [] [] [9,10,11] (oD (dT p0.sub)<|oK 1 [] h3 (c133 h2) o0) (ih90Laz _ _ _ h))
  obtain rfl:=sj h
  exact k90 (tF q90 1 [] (oK 1 [] h3 (c133 h2) o0))
  intro p0 v11 r h
  rw[e90Laz]at h
  rcases spl h with⟨h4,h⟩|⟨h4,h⟩
  obtain⟨x5,h6,h⟩:=obind h
  obtain⟨r7,h8,h⟩:=obind h
  have k:=oA 0 (ix29 (o:=.no) h6)<|oB 0 h4 o0
  obtain⟨h9,h⟩:=spT h
  exact fun j=>lH 2 [] [] [] [9,10,11] (oD (dT p0.sub)<|oK 3 [] h9 (ih90 _ _ h8) k) (ih90Laz _ _ _ h)
  obtain rfl:=sj h
  exact fun j=>lF 0 [] (oB 0 h4 o0)
theorem c90{qq p0 r}(h:e90 qq p0=some r):K90 p0 r Ct:=(a90_90Laz _).1 _ _ h
def e57(qq:Nat)(p0:Tm):Option (Bool):=
 e89 qq p0>>=fun r1=>
 if decide (r1≤128)then
 e90 qq p0>>=fun r4=>
 some r4
 else
 none
abbrev K57 (p0:Tm) (r:Bool) (C:Cf):Prop:=C 57 [] [tmA p0] (ab r) [] 0
theorem q57:Qf 57 Tryz.f57:=⟨Tryz.func57,by kernel_rfl⟩
theorem k57{p0 r}(h:K57 p0 r Ci):K57 p0 r Ct:=⟨h,⟨⟨tv,tv,⟨tv,dT _⟩,tv⟩,tv⟩,forall_nil,tv,forall_nil⟩
theorem c57{qq p0 r}(h:e57 qq p0=some r):K57 p0 r Ct:=by
 unfold e57 at h
 obtain⟨r1,h2,h⟩:=obind h
 have k:=oC 1 [] (c89 h2) o0
 obtain⟨h3,h⟩:=spT h
 obtain⟨r4,h5,h⟩:=obind h
 obtain rfl:=sj h
 exact k57 (tF q57 0 [] (oC 1 [] (c90 h5)<|oB 0 h3 k))
def e128(qq:Nat)(p0:Tm):Option (List Int):=
 (e57 qq p0)>>=fun r1=>
 if r1=true then
  (e130 qq p0 6 7)>>=fun r4=>
  if decide (List.length r4<4611686018427387904)=true then some (rise r4)else none
 else
  some []
theorem c128{qq:Nat}{p0:Tm}{r:List Int}(h:e128 qq p0=some r):CT Tryz.prog 128 [] [tmA p0] (.sl (flat intC r) (List.length r) .no) [] 0:=by
 unfold e128 at h
 obtain⟨r1,h2,h⟩:=obind h
 rcases bcases r1 with h3|h3
 ·replace h:=ifT h3 h
  obtain⟨l,h5,h⟩:=obind h
  rcases bcases (decide (List.length l<4611686018427387904))with h6|h6
  ·replace h:=ifT h6 h
   replace h:=Option.some.inj h
   subst h
   subst h3
   have hsz:List.length l<4611686018427387904:=by simpa using h6
   refine⟨?_,⟨⟨trivial,trivial,⟨trivial,dT _⟩,trivial⟩,trivial⟩,(fun _ h=>nomatch h),dI _,(fun _ h=>nomatch h)⟩
   have k0:knd (bod Tryz.f128)=1:=by kernel_rfl
   have k1:knd (rgt (bod Tryz.f128))=1:=by kernel_rfl
   have k2:knd (rgt (rgt (bod Tryz.f128)))=1:=by kernel_rfl
   have k3:isReg (lft (rgt (rgt (bod Tryz.f128))))=true:=by kernel_rfl
   have k4:clOf (regOps (lft (rgt (rgt (bod Tryz.f128)))))[2]? = some (some 8,129,#[.tmp 7]):=by kernel_rfl
   have k5:(Tryz.f129.name == "runtime.NumGoroutine")=false:=by kernel_rfl
   have k6:Tryz.f129.body.isNone=false:=by kernel_rfl
   have x1:krun Tryz.prog prim 3000 (.run (lft (bod Tryz.f128))) [] ([tmA p0]++List.replicate (Tryz.f128.ntmps-1) (.val undef)) (st0 []) []=some (.fin .normal,[tmA p0,.mp 0 0,.sl [] 0 .nl,.val undef,.val undef,.val undef,.val undef,.val undef,.val undef],⟨[(0,.cells (tmL p0))],1,[],0,[]⟩,[],[]):=by kernel_rfl
   have x2:krun Tryz.prog prim 3000 (.run (lft (rgt (bod Tryz.f128)))) [] [tmA p0,.mp 0 0,.sl [] 0 .nl,.val undef,.val undef,.val undef,.val undef,.val undef,.val undef] ⟨[(0,.cells (tmL p0))],1,[],0,[]⟩ [.no,.call [] [] 0 (ab true) (some true),.no]=some (.fin .normal,[tmA p0,.mp 0 0,.sl [] 0 .nl,tmA p0,ab true,ab false,.val undef,.val undef,.val undef],⟨[(0,.cells (tmL p0))],1,[],0,[]⟩,[],[.bit true true,.call 57 [] [tmA p0] (ab true) [] 0]):=by kernel_rfl
   have x3:(xops Tryz.prog prim (regOps (lft (rgt (rgt (bod Tryz.f128))))) ((regOps (lft (rgt (rgt (bod Tryz.f128))))).toList.take 2) 0 [tmA p0,.mp 0 0,.sl [] 0 .nl,tmA p0,ab true,ab false,.val undef,.val undef,.val undef] ⟨[(0,.cells (tmL p0))],1,[],0,[]⟩ [.no,.call [] [] 1 (.sl (flat intC l) l.length (.st 0 1)) none]).map Prod.snd=some ([tmA p0,.mp 0 0,.sl [] 0 .nl,tmA p0,ab true,ab false,tmA p0,.sl (flat intC l) l.length (.st 0 1),.val undef],⟨[(0,.cells (tmL p0))],1,[0],1,[]⟩,[],[.call 130 [] [tmA p0,ai 6,ai 7] (.sl (flat intC l) l.length (.st 0 1)) [] 1]):=by kernel_rfl
   have x4:∀j:Nat->Value,(xops Tryz.prog prim (regOps (lft (rgt (rgt (bod Tryz.f128))))) ((regOps (lft (rgt (rgt (bod Tryz.f128))))).toList.drop 3) 3 (eset (tells [] (mutEnv [] j [tmA p0,.mp 0 0,.sl [] 0 .nl,tmA p0,ab true,ab false,tmA p0,.sl (flat intC l) l.length (.st 0 1),.val undef] 0)) (some 8) (.sl (flat intC (rise l)) (rise l).length .no)) (pickSt [] ⟨[(0,.cells (tmL p0))],1,[0],1,[]⟩) []).map Prod.snd=some ([.val (j 0),.val (j 1),.sl (flat intC (rise l)) (rise l).length .no,.val (j 3),ab true,ab false,.val (j 6),.val (j 7),.sl (flat intC (rise l)) (rise l).length .no],⟨[],1,[],0,[]⟩,[],[]):=fun j=>by kernel_rfl
   have x5:∀j:Nat->Value,kfin Tryz.prog prim 0 Tryz.f128 3000 (.run (rgt (rgt (rgt (bod Tryz.f128))))) [] [.val (j 0),.val (j 1),.sl (flat intC (rise l)) (rise l).length .no,.val (j 3),ab true,ab false,.val (j 6),.val (j 7),.sl (flat intC (rise l)) (rise l).length .no] ⟨[],1,[],0,[]⟩ [] [] [] [] false=some (.sl (flat intC (rise l)) (rise l).length .no,[],[.data (flat intC (rise l))]):=fun j=>by kernel_rfl
   refine CTri.body Tryz.func128 (by kernel_rfl) ?_
   refine Dv.seqP k0 ?_
   refine krun_ok (Q:=_) prim_ok mixed 3000 (.run (lft (bod Tryz.f128))) [] _ _ _ _ _ _ _ _ x1 ObsOk.nil ?_
   refine Dv.seqP k1 ?_
   refine krun_ok (Q:=_) prim_ok mixed 3000 (.run (lft (rgt (bod Tryz.f128)))) [] _ _ _ _ _ _ _ _ x2 (ObsOk.cons (obBit rfl) (ObsOk.cons (obCall (c57 h2)) ObsOk.nil)) ?_
   refine Dv.seqP k2 ?_
   obtain⟨id,k7⟩:=regP k3
   rw[k7]
   refine Dv.mut prim_ok (na:=(0:Nat)) rfl 2 [] [] _ x3 (ObsOk.cons (obCall (c130 h5)) ObsOk.nil) k4 Tryz.func129 k5 k6 (fun i X h=>by cases h) ?_ x4 ObsOk.nil ?_
   ·intro G0 W hB G w hE hR u hu
    refine(rise_call hR (by rfl) hsz hu).mono ?_
    rintro e w' ⟨v,b,S,z1,z2,z3,z4,z5,z6⟩
    exact⟨v,b,S,z1,z2,z3,z4,z5,fun G' _ _ hS=>⟨z6 G' hS,fun q hq=>by cases hq⟩⟩
   ·intro j
    exact kfin_ok (na:=(0:Nat)) prim_ok mixed (x5 j) (ObsOk.cons (obData (dI _)) ObsOk.nil) (by decide)
  ·replace h:=ifF h6 h
   cases h
 ·replace h:=ifF h3 h
  replace h:=Option.some.inj h
  subst h
  exact⟨CTri.toFin prim_ok mixed Tryz.func128 (by kernel_rfl) 3000 [.no,.call [] [] 0 (ab r1) (some false),.no] [] [] [] false (by kernel_rfl) (ObsOk.cons (obBit h3) (ObsOk.cons (obCall (c57 h2)) (ObsOk.cons (obData (dI ([]:List Int))) ObsOk.nil))) (by decide),⟨⟨trivial,trivial,⟨trivial,dT _⟩,trivial⟩,trivial⟩,(fun _ h=>nomatch h),dI _,(fun _ h=>nomatch h)⟩
def e82(qq:Nat)(p0:Tm)(p1 p2:Int):Option (Bool):=
 e57 qq p0>>=fun r1=>
 if r1 then
 e127 qq p0 0>>=fun r4=>
 if decide (r4>p1)then
 none
 else
 e128 qq p0>>=fun r7=>
 if (List.length r7:Int)==0 then
 some true
 else
 gidx r7 (w64 ((List.length r7:Int)-1))>>=fun x10=>
 some (decide (x10<p2))
 else
 none
abbrev K82 (p0:Tm) (p1 p2:Int) (r:Bool) (C:Cf):Prop:=C 82 [] [tmA p0,ai p1,ai p2] (ab r) [] 0
theorem q82:Qf 82 Tryz.f82:=⟨Tryz.func82,by kernel_rfl⟩
theorem k82{p0 p1 p2 r}(h:K82 p0 p1 p2 r Ci):K82 p0 p1 p2 r Ct:=⟨h,⟨⟨tv,tv,⟨tv,dT _⟩,tv⟩,tv,tv,tv⟩,forall_nil,tv,forall_nil⟩
theorem c82{qq p0 p1 p2 r}(h:e82 qq p0 p1 p2=some r):K82 p0 p1 p2 r Ct:=by
 unfold e82 at h
 obtain⟨r1,h2,h⟩:=obind h
 obtain⟨h3,h⟩:=spT h
 obtain⟨r4,h5,h⟩:=obind h
 have k:=oC 2 [] (c127 h5)<|oK 1 [] h3 (c57 h2) o0
 obtain⟨h6,h⟩:=splF h
 obtain⟨r7,h8,h⟩:=obind h
 have k:=oC 1 [] (c128 h8)<|oB 0 h6 k
 rcases spl h with⟨h9,h⟩|⟨h9,h⟩
 obtain rfl:=sj h
 exact k82 (tF q82 0 [] (oB 1 h9 k))
 obtain⟨x10,h11,h⟩:=obind h
 obtain rfl:=sj h
 exact k82 (tF q82 2 [] (oA 2 (ix32 (o:=.no) h11)<|oB 1 h9 k))
def e83(qq:Nat)(p0:Tm):Option (List Int):=
 (e57 qq p0)>>=fun r1=>
 if r1=true then
  (e130 qq p0 8 8)>>=fun r4=>
  if decide (List.length r4<4611686018427387904)=true then some (rise r4)else none
 else
  some []
theorem c83{qq:Nat}{p0:Tm}{r:List Int}(h:e83 qq p0=some r):CT Tryz.prog 83 [] [tmA p0] (.sl (flat intC r) (List.length r) .no) [] 0:=by
 unfold e83 at h
 obtain⟨r1,h2,h⟩:=obind h
 rcases bcases r1 with h3|h3
 ·replace h:=ifT h3 h
  obtain⟨l,h5,h⟩:=obind h
  rcases bcases (decide (List.length l<4611686018427387904))with h6|h6
  ·replace h:=ifT h6 h
   replace h:=Option.some.inj h
   subst h
   subst h3
   have hsz:List.length l<4611686018427387904:=by simpa using h6
   refine⟨?_,⟨⟨trivial,trivial,⟨trivial,dT _⟩,trivial⟩,trivial⟩,(fun _ h=>nomatch h),dI _,(fun _ h=>nomatch h)⟩
   have k0:knd (bod Tryz.f83)=1:=by kernel_rfl
   have k1:knd (rgt (bod Tryz.f83))=1:=by kernel_rfl
   have k2:knd (rgt (rgt (bod Tryz.f83)))=1:=by kernel_rfl
   have k3:isReg (lft (rgt (rgt (bod Tryz.f83))))=true:=by kernel_rfl
   have k4:clOf (regOps (lft (rgt (rgt (bod Tryz.f83)))))[2]? = some (some 8,129,#[.tmp 7]):=by kernel_rfl
   have k5:(Tryz.f129.name == "runtime.NumGoroutine")=false:=by kernel_rfl
   have k6:Tryz.f129.body.isNone=false:=by kernel_rfl
   have x1:krun Tryz.prog prim 3000 (.run (lft (bod Tryz.f83))) [] ([tmA p0]++List.replicate (Tryz.f83.ntmps-1) (.val undef)) (st0 []) []=some (.fin .normal,[tmA p0,.mp 0 0,.sl [] 0 .nl,.val undef,.val undef,.val undef,.val undef,.val undef,.val undef],⟨[(0,.cells (tmL p0))],1,[],0,[]⟩,[],[]):=by kernel_rfl
   have x2:krun Tryz.prog prim 3000 (.run (lft (rgt (bod Tryz.f83)))) [] [tmA p0,.mp 0 0,.sl [] 0 .nl,.val undef,.val undef,.val undef,.val undef,.val undef,.val undef] ⟨[(0,.cells (tmL p0))],1,[],0,[]⟩ [.no,.call [] [] 0 (ab true) (some true),.no]=some (.fin .normal,[tmA p0,.mp 0 0,.sl [] 0 .nl,tmA p0,ab true,ab false,.val undef,.val undef,.val undef],⟨[(0,.cells (tmL p0))],1,[],0,[]⟩,[],[.bit true true,.call 57 [] [tmA p0] (ab true) [] 0]):=by kernel_rfl
   have x3:(xops Tryz.prog prim (regOps (lft (rgt (rgt (bod Tryz.f83))))) ((regOps (lft (rgt (rgt (bod Tryz.f83))))).toList.take 2) 0 [tmA p0,.mp 0 0,.sl [] 0 .nl,tmA p0,ab true,ab false,.val undef,.val undef,.val undef] ⟨[(0,.cells (tmL p0))],1,[],0,[]⟩ [.no,.call [] [] 1 (.sl (flat intC l) l.length (.st 0 1)) none]).map Prod.snd=some ([tmA p0,.mp 0 0,.sl [] 0 .nl,tmA p0,ab true,ab false,tmA p0,.sl (flat intC l) l.length (.st 0 1),.val undef],⟨[(0,.cells (tmL p0))],1,[0],1,[]⟩,[],[.call 130 [] [tmA p0,ai 8,ai 8] (.sl (flat intC l) l.length (.st 0 1)) [] 1]):=by kernel_rfl
   have x4:∀j:Nat->Value,(xops Tryz.prog prim (regOps (lft (rgt (rgt (bod Tryz.f83))))) ((regOps (lft (rgt (rgt (bod Tryz.f83))))).toList.drop 3) 3 (eset (tells [] (mutEnv [] j [tmA p0,.mp 0 0,.sl [] 0 .nl,tmA p0,ab true,ab false,tmA p0,.sl (flat intC l) l.length (.st 0 1),.val undef] 0)) (some 8) (.sl (flat intC (rise l)) (rise l).length .no)) (pickSt [] ⟨[(0,.cells (tmL p0))],1,[0],1,[]⟩) []).map Prod.snd=some ([.val (j 0),.val (j 1),.sl (flat intC (rise l)) (rise l).length .no,.val (j 3),ab true,ab false,.val (j 6),.val (j 7),.sl (flat intC (rise l)) (rise l).length .no],⟨[],1,[],0,[]⟩,[],[]):=fun j=>by kernel_rfl
   have x5:∀j:Nat->Value,kfin Tryz.prog prim 0 Tryz.f83 3000 (.run (rgt (rgt (rgt (bod Tryz.f83))))) [] [.val (j 0),.val (j 1),.sl (flat intC (rise l)) (rise l).length .no,.val (j 3),ab true,ab false,.val (j 6),.val (j 7),.sl (flat intC (rise l)) (rise l).length .no] ⟨[],1,[],0,[]⟩ [] [] [] [] false=some (.sl (flat intC (rise l)) (rise l).length .no,[],[.data (flat intC (rise l))]):=fun j=>by kernel_rfl
   refine CTri.body Tryz.func83 (by kernel_rfl) ?_
   refine Dv.seqP k0 ?_
   refine krun_ok (Q:=_) prim_ok mixed 3000 (.run (lft (bod Tryz.f83))) [] _ _ _ _ _ _ _ _ x1 ObsOk.nil ?_
   refine Dv.seqP k1 ?_
   refine krun_ok (Q:=_) prim_ok mixed 3000 (.run (lft (rgt (bod Tryz.f83)))) [] _ _ _ _ _ _ _ _ x2 (ObsOk.cons (obBit rfl) (ObsOk.cons (obCall (c57 h2)) ObsOk.nil)) ?_
   refine Dv.seqP k2 ?_
   obtain⟨id,k7⟩:=regP k3
   rw[k7]
   refine Dv.mut prim_ok (na:=(0:Nat)) rfl 2 [] [] _ x3 (ObsOk.cons (obCall (c130 h5)) ObsOk.nil) k4 Tryz.func129 k5 k6 (fun i X h=>by cases h) ?_ x4 ObsOk.nil ?_
   ·intro G0 W hB G w hE hR u hu
    refine(rise_call hR (by rfl) hsz hu).mono ?_
    rintro e w' ⟨v,b,S,z1,z2,z3,z4,z5,z6⟩
    exact⟨v,b,S,z1,z2,z3,z4,z5,fun G' _ _ hS=>⟨z6 G' hS,fun q hq=>by cases hq⟩⟩
   ·intro j
    exact kfin_ok (na:=(0:Nat)) prim_ok mixed (x5 j) (ObsOk.cons (obData (dI _)) ObsOk.nil) (by decide)
  ·replace h:=ifF h6 h
   cases h
 ·replace h:=ifF h3 h
  replace h:=Option.some.inj h
  subst h
  exact⟨CTri.toFin prim_ok mixed Tryz.func83 (by kernel_rfl) 3000 [.no,.call [] [] 0 (ab r1) (some false),.no] [] [] [] false (by kernel_rfl) (ObsOk.cons (obBit h3) (ObsOk.cons (obCall (c57 h2)) (ObsOk.cons (obData (dI ([]:List Int))) ObsOk.nil))) (by decide),⟨⟨trivial,trivial,⟨trivial,dT _⟩,trivial⟩,trivial⟩,(fun _ h=>nomatch h),dI _,(fun _ h=>nomatch h)⟩
def e52(qq:Nat)(p0:Tm)(p1:Int):Option (Bool):=
 e82 qq p0 0 p1>>=fun r1=>
 if r1 then
 e83 qq p0>>=fun r4=>
 some ((List.length r4:Int)==0)
 else
 none
abbrev K52 (p0:Tm) (p1:Int) (r:Bool) (C:Cf):Prop:=C 52 [] [tmA p0,ai p1] (ab r) [] 0
theorem q52:Qf 52 Tryz.f52:=⟨Tryz.func52,by kernel_rfl⟩
theorem k52{p0 p1 r}(h:K52 p0 p1 r Ci):K52 p0 p1 r Ct:=⟨h,⟨⟨tv,tv,⟨tv,dT _⟩,tv⟩,tv,tv⟩,forall_nil,tv,forall_nil⟩
theorem c52{qq p0 p1 r}(h:e52 qq p0 p1=some r):K52 p0 p1 r Ct:=by
 unfold e52 at h
 obtain⟨r1,h2,h⟩:=obind h
 obtain⟨h3,h⟩:=spT h
 obtain⟨r4,h5,h⟩:=obind h
 obtain rfl:=sj h
 exact k52 (tF q52 2 [] (oC 1 [] (c83 h5)<|oK 1 [] h3 (c82 h2) o0))
mutual
def e63:Nat->Tm->Option (Tm)
 |0,_=>none
 |qq+1,p0=>
 e63Lba qq p0 0 []
def e63Lba:Nat->Tm->Int->(List Tm)->Option (Tm)
 |0,_,_,_=>none
 |qq+1,p0,v14,vb1_2=>
 if decide (v14<(List.length p0.sub:Int))then
 gidx p0.sub v14>>=fun x2=>
 e63 qq x2>>=fun r4=>
 gapp 40 vb1_2 [r4]>>=fun l6=>
 e63Lba qq p0 (w64 (v14+1)) l6
 else
 some (Tm.mk p0.k p0.n vb1_2)
end
def g63LbaE0(j:Nat->Value)(p0:Tm)(v14:Int)(vb1_2:List Tm):=sp j 27 0 [(2,.mp 0 0),(3,.mp 1 0),(12,slv tmCells p0.sub .no),(13,ai (List.length p0.sub:Int)),(14,ai v14)]
def g63LbaS0(p0:Tm)(v14:Int)(vb1_2:List Tm):LSt:=⟨[(0,.cells [ai 0,ai 0,slv tmCells ([]:List Tm) .nl]),(1,.cells [ai p0.k,ai p0.n,slv tmCells vb1_2 (.st 0 3)])],2,[0],1,[]⟩
abbrev K63 (p0 r:Tm) (C:Cf):Prop:=C 63 [] [tmA p0] (tmA r) [] 0
theorem q63:Qf 63 Tryz.f63:=⟨Tryz.func63,by kernel_rfl⟩
theorem k63{p0 r}(h:K63 p0 r Ci):K63 p0 r Ct:=⟨h,⟨⟨tv,tv,⟨tv,dT _⟩,tv⟩,tv⟩,forall_nil,⟨tv,tv,dT _,tv⟩,forall_nil⟩
theorem a63_63Lba:∀qq:Nat,(∀p0 r,e63 qq p0=some r->K63 p0 r Ct)∧(∀p0 v14 vb1_2 r,e63Lba qq p0 v14 vb1_2=some r->(∀j,Dl Tryz.prog 0 (inn (inn (rgt (lft (rgt (rgt (bod Tryz.f63))))))) (g63LbaE0 j p0 v14 vb1_2) (g63LbaS0 p0 v14 vb1_2) (frameQ Tryz.prog 0 (FinQ Tryz.prog 0 Tryz.f63 (tmA r) [] 0) [.blk 0,.seq (rgt (rgt (rgt (bod Tryz.f63))))]))):=by
 intro qq
 induction qq with
 |zero=>
  exact⟨fun _ _ h=>nn h,fun _ _ _ _ h=>nn h⟩
 |succ qq ih=>
  obtain⟨ih63,ih63Lba⟩:=ih
  refine⟨?_,?_⟩
  intro p0 r h
  rw[e63]at h
  exact k63 (tH q63 5 [(some 2,2,3)] [1,2] [0] [2,3,12,13,14] (oD (dT p0.sub)<|oD (dT ([]:List Tm))<|oD (dT ([]:List Tm)) o0) (ih63Lba _ _ _ _ h))
  intro p0 v14 vb1_2 r h
  rw[e63Lba]at h
  rcases spl h with⟨h1,h⟩|⟨h1,h⟩
  obtain⟨x2,h3,h⟩:=obind h
  obtain⟨r4,h5,h⟩:=obind h
  obtain⟨l6,h7,h⟩:=obind h
  exact fun j=>lH 2 [] [0,1] [1] [2,3,12,13,14] (oD (dT p0.sub)<|oD (dT l6)<|oD (dT ([]:List Tm))<|oP 0 (apS29 h7 (by simp))<|oS 0 (obLitR tm_eq [r4])<|oC 1 [] (ih63 _ _ h5)<|oCl 2<|oA 0 (ix29 (o:=.no) h3)<|oB 0 h1 o0) (ih63Lba _ _ _ _ h)
  obtain rfl:=sj h
  exact fun j=>lF 2 [] (oD (dT vb1_2)<|oB 0 h1 o0)
theorem c63{qq p0 r}(h:e63 qq p0=some r):K63 p0 r Ct:=(a63_63Lba _).1 _ _ h
def e41(qq:Nat)(p0:Tm):Option (Tm):=
 e57 qq p0>>=fun r1=>
 if r1 then
 e63 qq p0>>=fun r4=>
 some r4
 else
 some (Tm.mk 0 0 [])
abbrev K41 (p0 r:Tm) (C:Cf):Prop:=C 41 [] [tmA p0] (tmA r) [] 0
theorem q41:Qf 41 Tryz.f41:=⟨Tryz.func41,by kernel_rfl⟩
theorem k41{p0 r}(h:K41 p0 r Ci):K41 p0 r Ct:=⟨h,⟨⟨tv,tv,⟨tv,dT _⟩,tv⟩,tv⟩,forall_nil,⟨tv,tv,dT _,tv⟩,forall_nil⟩
theorem c41{qq p0 r}(h:e41 qq p0=some r):K41 p0 r Ct:=by
 unfold e41 at h
 obtain⟨r1,h2,h⟩:=obind h
 rcases spl h with⟨h3,h⟩|⟨h3,h⟩
 obtain⟨r4,h5,h⟩:=obind h
 obtain rfl:=sj h
 exact k41 (tF q41 1 [] (oD (dT r4.sub)<|oC 2 [] (c63 h5)<|oK 1 [] h3 (c57 h2) o0))
 obtain rfl:=sj h
 exact k41 (tF q41 2 [] (oD (dT ([]:List Tm))<|oK 1 [] h3 (c57 h2) o0))
def e35Lbb:Nat->Int->Int->(List Tm)->Int->Int->(List Tm)->Option (List Tm×Tm×Int)
 |0,_,_,_,_,_,_=>none
 |qq+1,p1,v25,v7,vb1_0,vb1_1,vb1_2=>
 if decide (v25<p1)then
 if vb1_0 != 3 then
 none
 else
 gidx vb1_2 0>>=fun x10=>
 gapp 40 v7 [x10]>>=fun l12=>
 gidx vb1_2 1>>=fun x14=>
 e35Lbb qq p1 (w64 (v25+1)) l12 x14.k x14.n x14.sub
 else
 some (v7,(Tm.mk vb1_0 vb1_1 vb1_2),0)
def e35(qq:Nat)(p0:Tm)(p1:Int):Option (List Tm×Tm×Int):=
 e57 qq p0>>=fun r1=>
 if r1 then
 if decide (p1<0)then
 none
 else
 if decide (p1>24)then
 none
 else
 e41 qq p0>>=fun r6=>
 e35Lbb qq p1 0 [] r6.k r6.n r6.sub
 else
 none
def g35LbbE0(j:Nat->Value)(p1 v25:Int)(v7:List Tm)(vb1_0 vb1_1:Int)(vb1_2:List Tm):=sp j 45 0 [(5,.mp 0 0),(7,slv tmCells v7 (.st 0 3)),(8,.mp 1 0),(24,ai p1),(25,ai v25)]
def g35LbbS0(p1 v25:Int)(v7:List Tm)(vb1_0 vb1_1:Int)(vb1_2:List Tm):LSt:=⟨[(0,.cells [ai 0,ai 0,slv tmCells ([]:List Tm) .nl]),(1,.cells [ai vb1_0,ai vb1_1,slv tmCells vb1_2 .no])],2,[0],1,[]⟩
abbrev K35 (p0:Tm) (p1:Int) (r:List Tm×Tm×Int) (C:Cf):Prop:=C 35 [] [tmA p0,ai p1] (.tup [.sl (flat tmCells r.1) (List.length r.1) .no,tmA r.2.1,ai r.2.2]) [] 0
theorem q35:Qf 35 Tryz.f35:=⟨Tryz.func35,by kernel_rfl⟩
theorem k35{p0 p1 r}(h:K35 p0 p1 r Ci):K35 p0 p1 r Ct:=⟨h,⟨⟨tv,tv,⟨tv,dT _⟩,tv⟩,tv,tv⟩,forall_nil,⟨dT _,⟨tv,tv,dT _,tv⟩,tv,tv⟩,forall_nil⟩
theorem l35Lbb:∀qq:Nat,(∀p1 v25 v7 vb1_0 vb1_1 vb1_2 r,e35Lbb qq p1 v25 v7 vb1_0 vb1_1 vb1_2=some r->(∀j,Dl Tryz.prog 0 (inn (inn (rgt (lft (rgt (rgt (rgt (rgt (bod Tryz.f35))))))))) (g35LbbE0 j p1 v25 v7 vb1_0 vb1_1 vb1_2) (g35LbbS0 p1 v25 v7 vb1_0 vb1_1 vb1_2) (frameQ Tryz.prog 0 (FinQ Tryz.prog 0 Tryz.f35 (.tup [.sl (flat tmCells r.1) (List.length r.1) .no,tmA r.2.1,ai r.2.2]) [] 0) [.blk 1,.seq (rgt (rgt (rgt (rgt (rgt (bod Tryz.f35))))))]))):=by
 intro qq
 induction qq with
 |zero=>
  exact fun _ _ _ _ _ _ _ h=>nn h
 |succ qq ih=>
  intro p1 v25 v7 vb1_0 vb1_1 vb1_2 r h
  rw[e35Lbb]at h
  rcases spl h with⟨h8,h⟩|⟨h8,h⟩
  have k:=oB 0 h8 o0
  obtain⟨h9,h⟩:=splF h
  obtain⟨x10,h11,h⟩:=obind h
  obtain⟨l12,h13,h⟩:=obind h
  obtain⟨x14,h15,h⟩:=obind h
  exact fun j=>lH 3 [] [0,1] [1] [5,7,8,24,25] (oD (dT l12)<|oD (dT x14.sub)<|oD (dT ([]:List Tm))<|oA 1 (ix29 (o:=.no) h15)<|oP 0 (apS29 h13 (by simp))<|oS 1 (obLitR tm_eq [x10])<|oA 1 (ix29 (o:=.no) h11)<|oB 1 h9 k) (ih _ _ _ _ _ _ _ h)
  obtain rfl:=sj h
  exact fun j=>lF 2 [] (oD (dT vb1_2)<|oD (dT v7)<|oB 0 h8 o0)
theorem c35{qq p0 p1 r}(h:e35 qq p0 p1=some r):K35 p0 p1 r Ct:=by
 unfold e35 at h
 obtain⟨r1,h2,h⟩:=obind h
 obtain⟨h3,h⟩:=spT h
 have k:=oK 1 [] h3 (c57 h2) o0
 obtain⟨h4,h⟩:=splF h
 have k:=oB 1 h4 k
 obtain⟨h5,h⟩:=splF h
 obtain⟨r6,h7,h⟩:=obind h
 exact k35 (tH q35 1 [(none,7,3)] [1,2] [0] [5,7,8,24,25] (oD (dT ([]:List Tm))<|oD (dT r6.sub)<|oD (dT ([]:List Tm))<|oC 1 [] (c41 h7)<|oB 0 h5 k) (l35Lbb _ _ _ _ _ _ _ _ h))
def e44Lbc:Nat->Tm->Int->Int->Int->(List Tm)->Option (List Tm×Tm×Int)
 |0,_,_,_,_,_=>none
 |qq+1,p0,v5,vb2_0,vb2_1,vb2_2=>
 if vb2_0==3 then
 if (List.length vb2_2:Int)==2 then
 if decide (v5≤24)then
 gidx vb2_2 1>>=fun x4=>
 e44Lbc qq p0 (w64 (v5+1)) x4.k x4.n x4.sub
 else
 none
 else
 none
 else
 e35 qq p0 v5>>=fun r10=>
 some (r10.1,r10.2.1,r10.2.2)
def e44(qq:Nat)(p0:Tm):Option (List Tm×Tm×Int):=
 e44Lbc qq p0 0 p0.k p0.n p0.sub
def g44LbcE0(j:Nat->Value)(p0:Tm)(v5 vb2_0 vb2_1:Int)(vb2_2:List Tm):=sp j 34 0 [(1,.mp 0 0),(3,.mp 1 0),(5,ai v5),(6,.mp 2 0)]
def g44LbcS0(p0:Tm)(v5 vb2_0 vb2_1:Int)(vb2_2:List Tm):LSt:=⟨[(0,.cells [ai p0.k,ai p0.n,slv tmCells p0.sub .no]),(1,.cells [ai 0,ai 0,slv tmCells ([]:List Tm) .nl]),(2,.cells [ai vb2_0,ai vb2_1,slv tmCells vb2_2 .no])],3,[],0,[]⟩
abbrev K44 (p0:Tm) (r:List Tm×Tm×Int) (C:Cf):Prop:=C 44 [] [tmA p0] (.tup [.sl (flat tmCells r.1) (List.length r.1) .no,tmA r.2.1,ai r.2.2]) [] 0
theorem q44:Qf 44 Tryz.f44:=⟨Tryz.func44,by kernel_rfl⟩
theorem k44{p0 r}(h:K44 p0 r Ci):K44 p0 r Ct:=⟨h,⟨⟨tv,tv,⟨tv,dT _⟩,tv⟩,tv⟩,forall_nil,⟨dT _,⟨tv,tv,dT _,tv⟩,tv,tv⟩,forall_nil⟩
theorem l44Lbc:∀qq:Nat,(∀p0 v5 vb2_0 vb2_1 vb2_2 r,e44Lbc qq p0 v5 vb2_0 vb2_1 vb2_2=some r->(∀j,Dl Tryz.prog 0 (inn (inn (rgt (lft (rgt (rgt (bod Tryz.f44))))))) (g44LbcE0 j p0 v5 vb2_0 vb2_1 vb2_2) (g44LbcS0 p0 v5 vb2_0 vb2_1 vb2_2) (frameQ Tryz.prog 0 (FinQ Tryz.prog 0 Tryz.f44 (.tup [.sl (flat tmCells r.1) (List.length r.1) .no,tmA r.2.1,ai r.2.2]) [] 0) [.blk 0,.seq (rgt (rgt (rgt (bod Tryz.f44))))]))):=by
 intro qq
 induction qq with
 |zero=>
  exact fun _ _ _ _ _ _ h=>nn h
 |succ qq ih=>
  intro p0 v5 vb2_0 vb2_1 vb2_2 r h
  rw[e44Lbc]at h
  rcases spl h with⟨h1,h⟩|⟨h1,h⟩
  have k:=oB 1 h1 o0
  obtain⟨h2,h⟩:=spT h
  have k:=oB 2 h2 k
  obtain⟨h3,h⟩:=spT h
  obtain⟨x4,h5,h⟩:=obind h
  exact fun j=>lH 2 [] [0,1,3] [] [1,3,5,6] (oD (dT x4.sub)<|oD (dT ([]:List Tm))<|oD (dT p0.sub)<|oA 4 (ix29 (o:=.no) h5)<|oB 0 h3 k) (ih _ _ _ _ _ _ h)
  obtain⟨r10,h11,h⟩:=obind h
  obtain rfl:=sj h
  exact fun j=>lF 4 [] (oD (dT r10.2.1.sub)<|oD (dT r10.1)<|oC 1 [] (c35 h11)<|oB 1 h1 o0)
theorem c44{qq p0 r}(h:e44 qq p0=some r):K44 p0 r Ct:=by
 unfold e44 at h
 exact k44 (tH q44 2 [] [0,1,2] [] [1,3,5,6] (oD (dT p0.sub)<|oD (dT ([]:List Tm))<|oD (dT p0.sub) o0) (l44Lbc _ _ _ _ _ _ _ h))
def e84(qq:Nat)(p0:Tm):Option (Bool):=
 if p0.k==0 then
 if p0.n==0 then
 some ((List.length p0.sub:Int)==0)
 else
 none
 else
 none
abbrev K84 (p0:Tm) (r:Bool) (C:Cf):Prop:=C 84 [] [tmA p0] (ab r) [] 0
theorem q84:Qf 84 Tryz.f84:=⟨Tryz.func84,by kernel_rfl⟩
theorem k84{p0 r}(h:K84 p0 r Ci):K84 p0 r Ct:=⟨h,⟨⟨tv,tv,⟨tv,dT _⟩,tv⟩,tv⟩,forall_nil,tv,forall_nil⟩
theorem c84{qq p0 r}(h:e84 qq p0=some r):K84 p0 r Ct:=by
 unfold e84 at h
 obtain⟨h1,h⟩:=spT h
 have k:=oB 1 h1 o0
 obtain⟨h2,h⟩:=spT h
 obtain rfl:=sj h
 exact k84 (tF q84 3 [] (oB 1 h2 k))
def e85Lbd:Nat->(List Int)->Int->Int->Option (Bool)
 |0,_,_,_=>none
 |qq+1,p0,p1,v9=>
 if decide (v9<(List.length p0:Int))then
 gidx p0 v9>>=fun x2=>
 if x2 != (w64 (p1+v9))then
 none
 else
 e85Lbd qq p0 p1 (w64 (v9+1))
 else
 some true
def e85(qq:Nat)(p0:List Int)(p1:Int):Option (Bool):=
 e85Lbd qq p0 p1 0
def g85LbdE0(j:Nat->Value)(p0:List Int)(p1 v9:Int):=sp j 20 0 [(1,ai p1),(7,slv intC p0 .no),(8,ai (List.length p0:Int)),(9,ai v9)]
def g85LbdS0(p0:List Int)(p1 v9:Int):LSt:=⟨[],0,[],0,[]⟩
abbrev K85 (p0:List Int) (p1:Int) (r:Bool) (C:Cf):Prop:=C 85 [] [slv intC p0 .no,ai p1] (ab r) [] 0
theorem q85:Qf 85 Tryz.f85:=⟨Tryz.func85,by kernel_rfl⟩
theorem k85{p0 p1 r}(h:K85 p0 p1 r Ci):K85 p0 p1 r Ct:=⟨h,⟨⟨tv,dI _⟩,tv,tv⟩,forall_nil,tv,forall_nil⟩
theorem l85Lbd:∀qq:Nat,(∀p0 p1 v9 r,e85Lbd qq p0 p1 v9=some r->(∀j,Dl Tryz.prog 0 (inn (inn (rgt (lft (rgt (bod Tryz.f85)))))) (g85LbdE0 j p0 p1 v9) (g85LbdS0 p0 p1 v9) (frameQ Tryz.prog 0 (FinQ Tryz.prog 0 Tryz.f85 (ab r) [] 0) [.blk 0,.seq (rgt (rgt (bod Tryz.f85)))]))):=by
 intro qq
 induction qq with
 |zero=>
  exact fun _ _ _ _ h=>nn h
 |succ qq ih=>
  intro p0 p1 v9 r h
  rw[e85Lbd]at h
  rcases spl h with⟨h1,h⟩|⟨h1,h⟩
  obtain⟨x2,h3,h⟩:=obind h
  have k:=oA 0 (ix32 (o:=.no) h3)<|oB 0 h1 o0
  obtain⟨h4,h⟩:=splF h
  exact fun j=>lH 1 [] [] [] [1,7,8,9] (oD (dI p0)<|oB 2 h4 k) (ih _ _ _ _ h)
  obtain rfl:=sj h
  exact fun j=>lF 0 [] (oB 0 h1 o0)
theorem c85{qq p0 p1 r}(h:e85 qq p0 p1=some r):K85 p0 p1 r Ct:=by
 unfold e85 at h
 exact k85 (tH q85 1 [] [] [] [1,7,8,9] (oD (dI p0) o0) (l85Lbd _ _ _ _ _ h))
def e34(qq:Nat)(p0:List Ent)(p1 p2:Int):Option (Bool):=
 if decide (p1≥0)then
 if decide (p1<(List.length p0:Int))then
 gidx p0 p1>>=fun x3=>
 some (x3.kind==p2)
 else
 none
 else
 none
abbrev K34 (p0:List Ent) (p1 p2:Int) (r:Bool) (C:Cf):Prop:=C 34 [] [slv entL p0 .no,ai p1,ai p2] (ab r) [] 0
theorem q34:Qf 34 Tryz.f34:=⟨Tryz.func34,by kernel_rfl⟩
theorem k34{p0 p1 p2 r}(h:K34 p0 p1 p2 r Ci):K34 p0 p1 p2 r Ct:=⟨h,⟨⟨tv,dE _⟩,tv,tv,tv⟩,forall_nil,tv,forall_nil⟩
theorem c34{qq p0 p1 p2 r}(h:e34 qq p0 p1 p2=some r):K34 p0 p1 p2 r Ct:=by
 unfold e34 at h
 obtain⟨h1,h⟩:=spT h
 have k:=oB 0 h1 o0
 obtain⟨h2,h⟩:=spT h
 obtain⟨x3,h4,h⟩:=obind h
 obtain rfl:=sj h
 exact k34 (tF q34 2 [] (oA 0 (ix22 (o:=.no) h4)<|oB 1 h2 k))
def e86Lbe:Nat->(List Ent)->Int->(List Int)->Int->Int->Option (Bool)
 |0,_,_,_,_,_=>none
 |qq+1,p0,p1,p2,p3,v13=>
 if decide (v13<(List.length p2:Int))then
 gidx p2 v13>>=fun x2=>
 e34 qq p0 x2 p3>>=fun r4=>
 if r4 then
 gidx p0 x2>>=fun x7=>
 if x7.fam != p1 then
 none
 else
 if x7.place != v13 then
 none
 else
 e86Lbe qq p0 p1 p2 p3 (w64 (v13+1))
 else
 none
 else
 some true
def e86(qq:Nat)(p0:List Ent)(p1:Int)(p2:List Int)(p3:Int):Option (Bool):=
 e86Lbe qq p0 p1 p2 p3 0
def g86LbeE0(j:Nat->Value)(p0:List Ent)(p1:Int)(p2:List Int)(p3 v13:Int):=sp j 42 0 [(0,slv entL p0 .no),(1,ai p1),(3,ai p3),(11,slv intC p2 .no),(12,ai (List.length p2:Int)),(13,ai v13)]
def g86LbeS0(p0:List Ent)(p1:Int)(p2:List Int)(p3 v13:Int):LSt:=⟨[],0,[],0,[]⟩
abbrev K86 (p0:List Ent) (p1:Int) (p2:List Int) (p3:Int) (r:Bool) (C:Cf):Prop:=C 86 [] [slv entL p0 .no,ai p1,slv intC p2 .no,ai p3] (ab r) [] 0
theorem q86:Qf 86 Tryz.f86:=⟨Tryz.func86,by kernel_rfl⟩
theorem k86{p0 p1 p2 p3 r}(h:K86 p0 p1 p2 p3 r Ci):K86 p0 p1 p2 p3 r Ct:=⟨h,⟨⟨tv,dE _⟩,tv,⟨tv,dI _⟩,tv,tv⟩,forall_nil,tv,forall_nil⟩
theorem l86Lbe:∀qq:Nat,(∀p0 p1 p2 p3 v13 r,e86Lbe qq p0 p1 p2 p3 v13=some r->(∀j,Dl Tryz.prog 0 (inn (inn (rgt (lft (rgt (bod Tryz.f86)))))) (g86LbeE0 j p0 p1 p2 p3 v13) (g86LbeS0 p0 p1 p2 p3 v13) (frameQ Tryz.prog 0 (FinQ Tryz.prog 0 Tryz.f86 (ab r) [] 0) [.blk 0,.seq (rgt (rgt (bod Tryz.f86)))]))):=by
 intro qq
 induction qq with
 |zero=>
  exact fun _ _ _ _ _ _ h=>nn h
 |succ qq ih=>
  intro p0 p1 p2 p3 v13 r h
  rw[e86Lbe]at h
  rcases spl h with⟨h1,h⟩|⟨h1,h⟩
  obtain⟨x2,h3,h⟩:=obind h
  obtain⟨r4,h5,h⟩:=obind h
  have k:=oA 0 (ix32 (o:=.no) h3)<|oB 0 h1 o0
  obtain⟨h6,h⟩:=spT h
  obtain⟨x7,h8,h⟩:=obind h
  have k:=oA 1 (ix22 (o:=.no) h8)<|oK 1 [] h6 (c34 h5) k
  obtain⟨h9,h⟩:=splF h
  have k:=oA 0 (ix22 (o:=.no) h8)<|oB 1 h9 k
  obtain⟨h10,h⟩:=splF h
  exact fun j=>lH 1 [] [] [] [0,1,3,11,12,13] (oD (dI p2)<|oD (dE p0)<|oB 1 h10 k) (ih _ _ _ _ _ _ h)
  obtain rfl:=sj h
  exact fun j=>lF 0 [] (oB 0 h1 o0)
theorem c86{qq p0 p1 p2 p3 r}(h:e86 qq p0 p1 p2 p3=some r):K86 p0 p1 p2 p3 r Ct:=by
 unfold e86 at h
 exact k86 (tH q86 1 [] [] [] [0,1,3,11,12,13] (oD (dI p2)<|oD (dE p0) o0) (l86Lbe _ _ _ _ _ _ _ h))
def e53(qq:Nat)(p0:List Ent)(p1:Int):Option (Bool):=
 gidx p0 p1>>=fun x1=>
 if decide (x1.pars<0)then
 none
 else
 if decide (x1.inds<0)then
 none
 else
 if decide (x1.pars>24)then
 none
 else
 if decide (x1.inds>(w64 (24-x1.pars)))then
 none
 else
 if x1.fam != 0 then
 none
 else
 if x1.place != 0 then
 none
 else
 e84 qq x1.body>>=fun r9=>
 if r9 then
 e35 qq x1.type (w64 (x1.pars+x1.inds))>>=fun r12=>
 if r12.2.2 != 0 then
 none
 else
 if r12.2.1.k != 2 then
 none
 else
 if r12.2.1.n != x1.level then
 none
 else
 if decide ((List.length x1.cons:Int)>16)then
 none
 else
 e85 qq x1.cons (w64 (p1+1))>>=fun r18=>
 if r18 then
 e86 qq p0 p1 x1.cons 2>>=fun r21=>
 if r21 then
 if (List.length x1.fields:Int)==0 then
 some true
 else
 if x1.inds != 0 then
 none
 else
 if (List.length x1.cons:Int) != 1 then
 none
 else
 e85 qq x1.fields (w64 (p1+2))>>=fun r27=>
 if r27 then
 e86 qq p0 p1 x1.fields 4>>=fun r30=>
 if r30 then
 gidx p0 (w64 (p1+1))>>=fun x33=>
 e44 qq x33.type>>=fun r35=>
 if r35.2.2==0 then
 some ((List.length r35.1:Int)==(w64 (x1.pars+(List.length x1.fields:Int))))
 else
 none
 else
 none
 else
 none
 else
 none
 else
 none
 else
 none
abbrev K53 (p0:List Ent) (p1:Int) (r:Bool) (C:Cf):Prop:=C 53 [] [slv entL p0 .no,ai p1] (ab r) [] 0
theorem q53:Qf 53 Tryz.f53:=⟨Tryz.func53,by kernel_rfl⟩
theorem k53{p0 p1 r}(h:K53 p0 p1 r Ci):K53 p0 p1 r Ct:=⟨h,⟨⟨tv,dE _⟩,tv,tv⟩,forall_nil,tv,forall_nil⟩
theorem c53{qq p0 p1 r}(h:e53 qq p0 p1=some r):K53 p0 p1 r Ct:=by
 unfold e53 at h
 obtain⟨x1,h2,h⟩:=obind h
 have k:=oA 0 (ix22 (o:=.no) h2) o0
 obtain⟨h3,h⟩:=splF h
 have k:=oB 3 h3 k
 obtain⟨h4,h⟩:=splF h
 have k:=oB 1 h4 k
 obtain⟨h5,h⟩:=splF h
 have k:=oB 1 h5 k
 obtain⟨h6,h⟩:=splF h
 have k:=oB 3 h6 k
 obtain⟨h7,h⟩:=splF h
 have k:=oB 1 h7 k
 obtain⟨h8,h⟩:=splF h
 obtain⟨r9,h10,h⟩:=obind h
 have k:=oB 1 h8 k
 obtain⟨h11,h⟩:=spT h
 obtain⟨r12,h13,h⟩:=obind h
 have k:=oC 5 [] (c35 h13)<|oK 1 [] h11 (c84 h10) k
 obtain⟨h14,h⟩:=splF h
 have k:=oB 4 h14 k
 obtain⟨h15,h⟩:=splF h
 have k:=oB 1 h15 k
 obtain⟨h16,h⟩:=splF h
 have k:=oB 2 h16 k
 obtain⟨h17,h⟩:=splF h
 obtain⟨r18,h19,h⟩:=obind h
 have k:=oB 2 h17 k
 obtain⟨h20,h⟩:=spT h
 obtain⟨r21,h22,h⟩:=obind h
 have k:=oK 2 [] h20 (c85 h19) k
 obtain⟨h23,h⟩:=spT h
 have k:=oK 2 [] h23 (c86 h22) k
 rcases spl h with⟨h24,h⟩|⟨h24,h⟩
 obtain rfl:=sj h
 exact k53 (tF q53 0 [] (oB 3 h24 k))
 have k:=oB 3 h24 k
 obtain⟨h25,h⟩:=splF h
 have k:=oB 1 h25 k
 obtain⟨h26,h⟩:=splF h
 obtain⟨r27,h28,h⟩:=obind h
 have k:=oB 2 h26 k
 obtain⟨h29,h⟩:=spT h
 obtain⟨r30,h31,h⟩:=obind h
 have k:=oK 2 [] h29 (c85 h28) k
 obtain⟨h32,h⟩:=spT h
 obtain⟨x33,h34,h⟩:=obind h
 obtain⟨r35,h36,h⟩:=obind h
 have k:=oC 1 [] (c44 h36)<|oA 2 (ix22 (o:=.no) h34)<|oK 2 [] h32 (c86 h31) k
 obtain⟨h37,h⟩:=spT h
 obtain rfl:=sj h
 exact k53 (tF q53 6 [] (oB 4 h37 k))
def e87(qq:Nat)(p0:List Ent)(p1:Int):Option (Bool):=
 gidx p0 p1>>=fun x1=>
 e34 qq p0 x1.fam 1>>=fun r3=>
 if r3 then
 if decide (x1.fam≥p1)then
 none
 else
 gidx p0 x1.fam>>=fun x7=>
 if x1.pars != x7.pars then
 none
 else
 e84 qq x1.body>>=fun r10=>
 if r10 then
 if x1.inds != 0 then
 none
 else
 if x1.level != 0 then
 none
 else
 if decide ((w64 ((List.length x1.cons:Int)+(List.length x1.fields:Int)))>0)then
 none
 else
 if x1.kind==4 then
 if decide (x1.place≥0)then
 if decide (x1.place<(List.length x7.fields:Int))then
 gidx x7.fields x1.place>>=fun x19=>
 some (x19==p1)
 else
 none
 else
 none
 else
 if decide (x1.place≥0)then
 if decide (x1.place<(List.length x7.cons:Int))then
 gidx x7.cons x1.place>>=fun x23=>
 some (x23==p1)
 else
 none
 else
 none
 else
 none
 else
 none
abbrev K87 (p0:List Ent) (p1:Int) (r:Bool) (C:Cf):Prop:=C 87 [] [slv entL p0 .no,ai p1] (ab r) [] 0
theorem q87:Qf 87 Tryz.f87:=⟨Tryz.func87,by kernel_rfl⟩
theorem k87{p0 p1 r}(h:K87 p0 p1 r Ci):K87 p0 p1 r Ct:=⟨h,⟨⟨tv,dE _⟩,tv,tv⟩,forall_nil,tv,forall_nil⟩
theorem c87{qq p0 p1 r}(h:e87 qq p0 p1=some r):K87 p0 p1 r Ct:=by
 unfold e87 at h
 obtain⟨x1,h2,h⟩:=obind h
 obtain⟨r3,h4,h⟩:=obind h
 have k:=oA 0 (ix22 (o:=.no) h2) o0
 obtain⟨h5,h⟩:=spT h
 have k:=oK 3 [] h5 (c34 h4) k
 obtain⟨h6,h⟩:=splF h
 obtain⟨x7,h8,h⟩:=obind h
 have k:=oA 2 (ix22 (o:=.no) h8)<|oB 2 h6 k
 obtain⟨h9,h⟩:=splF h
 obtain⟨r10,h11,h⟩:=obind h
 have k:=oB 1 h9 k
 obtain⟨h12,h⟩:=spT h
 have k:=oK 1 [] h12 (c84 h11) k
 obtain⟨h13,h⟩:=splF h
 have k:=oB 2 h13 k
 obtain⟨h14,h⟩:=splF h
 have k:=oB 1 h14 k
 obtain⟨h15,h⟩:=splF h
 have k:=oA 1 (ix22 (o:=.no) h8)<|oB 5 h15 k
 rcases spl h with⟨h16,h⟩|⟨h16,h⟩
 have k:=oA 1 (ix22 (o:=.no) h8)<|oB 2 h16 k
 obtain⟨h17,h⟩:=spT h
 have k:=oB 2 h17 k
 obtain⟨h18,h⟩:=spT h
 obtain⟨x19,h20,h⟩:=obind h
 obtain rfl:=sj h
 exact k87 (tF q87 2 [] (oA 1 (ix32 (o:=.no) h20)<|oB 2 h18 k))
 have k:=oB 2 h16 k
 obtain⟨h21,h⟩:=spT h
 have k:=oB 1 h21 k
 obtain⟨h22,h⟩:=spT h
 obtain⟨x23,h24,h⟩:=obind h
 obtain rfl:=sj h
 exact k87 (tF q87 2 [] (oA 1 (ix32 (o:=.no) h24)<|oB 2 h22 k))
theorem spA1(j:Nat->Value)(ls:List L3)(x:Tm)(u:List AV)(vs:List Value)(o:Own):krun Tryz.prog prim 3000 (.run (inn (inn (lft (rgt (rgt (rgt (bod Tryz.f47)))))))) [] [.val (j 0),.mp 0 0,.mp 1 0,.val (j 3),.sl (flat c3 ls) ls.length (.st 0 3),.mp 2 0,.val (j 6),.val (j 7),.val (j 8),.val (j 9),.val (j 10),.val (j 11),.val (j 12),.val (j 13),.val (j 14),.val (j 15),.val (j 16),.val (j 17),.val (j 18),.val (j 19),.val (j 20),.val (j 21),.val (j 22),.val (j 23),.val (j 24),.val (j 25),.val (j 26),.val (j 27),.val (j 28),.val (j 29),.val (j 30),.val (j 31),.val (j 32),.val (j 33),.val (j 34)] ⟨[(0,.cells u),(1,.cells [ai 0,ai 0,.sl [] 0 .nl]),(2,.cells [ai x.k,ai x.n,.sl (vs.map .val) x.sub.length o])],3,[0],1,[]⟩ [.no,.bit false]=some (.fin (.exit 0),[.val (j 0),.mp 0 0,.mp 1 0,.val (j 3),.sl (flat c3 ls) ls.length (.st 0 3),.mp 2 0,.val (j 6),.mp 2 0,ai x.k,ab false,ab false,.val undef,.val undef,.val undef,.val undef,ab false,.val (j 16),.val (j 17),.val (j 18),.val (j 19),.val (j 20),.val (j 21),.val (j 22),.val (j 23),.val (j 24),.val (j 25),.val (j 26),.val (j 27),.val (j 28),.val (j 29),.val (j 30),.val (j 31),.val (j 32),.val (j 33),.val (j 34)],⟨[(0,.cells u),(1,.cells [ai 0,ai 0,.sl [] 0 .nl]),(2,.cells [ai x.k,ai x.n,.sl (vs.map .val) x.sub.length o])],3,[0],1,[]⟩,[],[.bit (x.k==5) false]):=by kernel_rfl
theorem spA2(j:Nat->Value)(ls:List L3)(x:Tm)(u:List AV)(vs:List Value)(o:Own):(xops Tryz.prog prim (regOps (lft (rgt (rgt (rgt (rgt (bod Tryz.f47))))))) ((regOps (lft (rgt (rgt (rgt (rgt (bod Tryz.f47))))))).toList.take 1) 0 [.val (j 0),.mp 0 0,.mp 1 0,.val (j 3),.sl (flat c3 ls) ls.length (.st 0 3),.mp 2 0,.val (j 6),.mp 2 0,ai x.k,ab false,ab false,.val undef,.val undef,.val undef,.val undef,ab false,.val (j 16),.val (j 17),.val (j 18),.val (j 19),.val (j 20),.val (j 21),.val (j 22),.val (j 23),.val (j 24),.val (j 25),.val (j 26),.val (j 27),.val (j 28),.val (j 29),.val (j 30),.val (j 31),.val (j 32),.val (j 33),.val (j 34)] ⟨[(0,.cells u),(1,.cells [ai 0,ai 0,.sl [] 0 .nl]),(2,.cells [ai x.k,ai x.n,.sl (vs.map .val) x.sub.length o])],3,[0],1,[]⟩ []).map Prod.snd=some ([.val (j 0),.mp 0 0,.mp 1 0,.val (j 3),.sl (flat c3 ls) ls.length (.st 0 3),.mp 2 0,.val (j 6),.mp 2 0,ai x.k,ab false,ab false,.val undef,.val undef,.val undef,.val undef,ab false,.val (j 16),.val (j 17),.val (j 18),.val (j 19),.val (j 20),.val (j 21),.val (j 22),.val (j 23),.val (j 24),.val (j 25),.val (j 26),.val (j 27),.val (j 28),.val (j 29),.val (j 30),.sl (flat c3 ls) ls.length (.st 0 3),.val (j 32),.val (j 33),.val (j 34)],⟨[(0,.cells u),(1,.cells [ai 0,ai 0,.sl [] 0 .nl]),(2,.cells [ai x.k,ai x.n,.sl (vs.map .val) x.sub.length o])],3,[0],1,[]⟩,[],[]):=by kernel_rfl
theorem spA3(j i:Nat->Value)(ls:List L3)(l:List Tm)(x:Tm)(u:List AV)(vs:List Value)(o:Own):(xops Tryz.prog prim (regOps (lft (rgt (rgt (rgt (rgt (bod Tryz.f47))))))) ((regOps (lft (rgt (rgt (rgt (rgt (bod Tryz.f47))))))).toList.drop 2) 2 (eset (tells [(4,.sl (flat tmCells l.reverse) l.length .no)] (mutEnv [1,2] i [.val (j 0),.mp 0 0,.mp 1 0,.val (j 3),.sl (flat c3 ls) ls.length (.st 0 3),.mp 2 0,.val (j 6),.mp 2 0,ai x.k,ab false,ab false,.val undef,.val undef,.val undef,.val undef,ab false,.val (j 16),.val (j 17),.val (j 18),.val (j 19),.val (j 20),.val (j 21),.val (j 22),.val (j 23),.val (j 24),.val (j 25),.val (j 26),.val (j 27),.val (j 28),.val (j 29),.val (j 30),.sl (flat c3 ls) ls.length (.st 0 3),.val (j 32),.val (j 33),.val (j 34)] 0)) (some 32) (.tup [])) (pickSt [1,2] ⟨[(0,.cells u),(1,.cells [ai 0,ai 0,.sl [] 0 .nl]),(2,.cells [ai x.k,ai x.n,.sl (vs.map .val) x.sub.length o])],3,[0],1,[]⟩) []).map Prod.snd=some ([.val (j 0),.val (i 1),.mp 1 0,.val (j 3),.sl (flat tmCells l.reverse) l.length .no,.mp 2 0,.val (j 6),.mp 2 0,ai x.k,ab false,ab false,.val undef,.val undef,.val undef,.val undef,ab false,.val (j 16),.val (j 17),.val (j 18),.val (j 19),.val (j 20),.val (j 21),.val (j 22),.val (j 23),.val (j 24),.val (j 25),.val (j 26),.val (j 27),.val (j 28),.val (j 29),.val (j 30),.val (i 31),.tup [],.val (j 33),.val (j 34)],⟨[(1,.cells [ai 0,ai 0,.sl [] 0 .nl]),(2,.cells [ai x.k,ai x.n,.sl (vs.map .val) x.sub.length o])],3,[],0,[]⟩,[],[]):=by kernel_rfl
theorem spA4(j i:Nat->Value)(l:List Tm)(x:Tm)(vs:List Value)(o:Own):kfin Tryz.prog prim 0 Tryz.f47 3000 (.run (rgt (rgt (rgt (rgt (rgt (bod Tryz.f47))))))) [] [.val (j 0),.val (i 1),.mp 1 0,.val (j 3),.sl (flat tmCells l.reverse) l.length .no,.mp 2 0,.val (j 6),.mp 2 0,ai x.k,ab false,ab false,.val undef,.val undef,.val undef,.val undef,ab false,.val (j 16),.val (j 17),.val (j 18),.val (j 19),.val (j 20),.val (j 21),.val (j 22),.val (j 23),.val (j 24),.val (j 25),.val (j 26),.val (j 27),.val (j 28),.val (j 29),.val (j 30),.val (i 31),.tup [],.val (j 33),.val (j 34)] ⟨[(1,.cells [ai 0,ai 0,.sl [] 0 .nl]),(2,.cells [ai x.k,ai x.n,.sl (vs.map .val) x.sub.length o])],3,[],0,[]⟩ [.no,.no] [] [] [] false=some (.tup [.agg [ai x.k,ai x.n,.sl (vs.map .val) x.sub.length .no],.sl (flat tmCells l.reverse) l.length .no],[],[.data (vs.map .val),.data (flat tmCells l.reverse)]):=by kernel_rfl
theorem spB1(j:Nat->Value)(ls:List L3)(x:Tm)(u:List AV)(vs:List Value)(o:Own):krun Tryz.prog prim 3000 (.run (inn (inn (lft (rgt (rgt (rgt (bod Tryz.f47)))))))) [] [.val (j 0),.mp 0 0,.mp 1 0,.val (j 3),.sl (flat c3 ls) ls.length (.st 0 3),.mp 2 0,.val (j 6),.val (j 7),.val (j 8),.val (j 9),.val (j 10),.val (j 11),.val (j 12),.val (j 13),.val (j 14),.val (j 15),.val (j 16),.val (j 17),.val (j 18),.val (j 19),.val (j 20),.val (j 21),.val (j 22),.val (j 23),.val (j 24),.val (j 25),.val (j 26),.val (j 27),.val (j 28),.val (j 29),.val (j 30),.val (j 31),.val (j 32),.val (j 33),.val (j 34)] ⟨[(0,.cells u),(1,.cells [ai 0,ai 0,.sl [] 0 .nl]),(2,.cells [ai x.k,ai x.n,.sl (vs.map .val) x.sub.length o])],3,[0],1,[]⟩ [.no,.bit true,.no,.no,.bit false]=some (.fin (.exit 0),[.val (j 0),.mp 0 0,.mp 1 0,.val (j 3),.sl (flat c3 ls) ls.length (.st 0 3),.mp 2 0,.val (j 6),.mp 2 0,ai x.k,ab true,ab true,.mp 2 2,.sl (vs.map .val) x.sub.length o,ai (x.sub.length:Int),ab false,ab false,.val (j 16),.val (j 17),.val (j 18),.val (j 19),.val (j 20),.val (j 21),.val (j 22),.val (j 23),.val (j 24),.val (j 25),.val (j 26),.val (j 27),.val (j 28),.val (j 29),.val (j 30),.val (j 31),.val (j 32),.val (j 33),.val (j 34)],⟨[(0,.cells u),(1,.cells [ai 0,ai 0,.sl [] 0 .nl]),(2,.cells [ai x.k,ai x.n,.sl (vs.map .val) x.sub.length o])],3,[0],1,[]⟩,[],[.bit (x.k==5) true,.bit ((x.sub.length:Int)==2) false]):=by kernel_rfl
theorem spB2(j:Nat->Value)(ls:List L3)(x:Tm)(u:List AV)(vs:List Value)(o:Own):(xops Tryz.prog prim (regOps (lft (rgt (rgt (rgt (rgt (bod Tryz.f47))))))) ((regOps (lft (rgt (rgt (rgt (rgt (bod Tryz.f47))))))).toList.take 1) 0 [.val (j 0),.mp 0 0,.mp 1 0,.val (j 3),.sl (flat c3 ls) ls.length (.st 0 3),.mp 2 0,.val (j 6),.mp 2 0,ai x.k,ab true,ab true,.mp 2 2,.sl (vs.map .val) x.sub.length o,ai (x.sub.length:Int),ab false,ab false,.val (j 16),.val (j 17),.val (j 18),.val (j 19),.val (j 20),.val (j 21),.val (j 22),.val (j 23),.val (j 24),.val (j 25),.val (j 26),.val (j 27),.val (j 28),.val (j 29),.val (j 30),.val (j 31),.val (j 32),.val (j 33),.val (j 34)] ⟨[(0,.cells u),(1,.cells [ai 0,ai 0,.sl [] 0 .nl]),(2,.cells [ai x.k,ai x.n,.sl (vs.map .val) x.sub.length o])],3,[0],1,[]⟩ []).map Prod.snd=some ([.val (j 0),.mp 0 0,.mp 1 0,.val (j 3),.sl (flat c3 ls) ls.length (.st 0 3),.mp 2 0,.val (j 6),.mp 2 0,ai x.k,ab true,ab true,.mp 2 2,.sl (vs.map .val) x.sub.length o,ai (x.sub.length:Int),ab false,ab false,.val (j 16),.val (j 17),.val (j 18),.val (j 19),.val (j 20),.val (j 21),.val (j 22),.val (j 23),.val (j 24),.val (j 25),.val (j 26),.val (j 27),.val (j 28),.val (j 29),.val (j 30),.sl (flat c3 ls) ls.length (.st 0 3),.val (j 32),.val (j 33),.val (j 34)],⟨[(0,.cells u),(1,.cells [ai 0,ai 0,.sl [] 0 .nl]),(2,.cells [ai x.k,ai x.n,.sl (vs.map .val) x.sub.length o])],3,[0],1,[]⟩,[],[]):=by kernel_rfl
theorem spB3(j i:Nat->Value)(ls:List L3)(l:List Tm)(x:Tm)(u:List AV)(vs:List Value)(o:Own):(xops Tryz.prog prim (regOps (lft (rgt (rgt (rgt (rgt (bod Tryz.f47))))))) ((regOps (lft (rgt (rgt (rgt (rgt (bod Tryz.f47))))))).toList.drop 2) 2 (eset (tells [(4,.sl (flat tmCells l.reverse) l.length .no)] (mutEnv [1,2] i [.val (j 0),.mp 0 0,.mp 1 0,.val (j 3),.sl (flat c3 ls) ls.length (.st 0 3),.mp 2 0,.val (j 6),.mp 2 0,ai x.k,ab true,ab true,.mp 2 2,.sl (vs.map .val) x.sub.length o,ai (x.sub.length:Int),ab false,ab false,.val (j 16),.val (j 17),.val (j 18),.val (j 19),.val (j 20),.val (j 21),.val (j 22),.val (j 23),.val (j 24),.val (j 25),.val (j 26),.val (j 27),.val (j 28),.val (j 29),.val (j 30),.sl (flat c3 ls) ls.length (.st 0 3),.val (j 32),.val (j 33),.val (j 34)] 0)) (some 32) (.tup [])) (pickSt [1,2] ⟨[(0,.cells u),(1,.cells [ai 0,ai 0,.sl [] 0 .nl]),(2,.cells [ai x.k,ai x.n,.sl (vs.map .val) x.sub.length o])],3,[0],1,[]⟩) []).map Prod.snd=some ([.val (j 0),.val (i 1),.mp 1 0,.val (j 3),.sl (flat tmCells l.reverse) l.length .no,.mp 2 0,.val (j 6),.mp 2 0,ai x.k,ab true,ab true,.mp 2 2,.val (i 12),ai (x.sub.length:Int),ab false,ab false,.val (j 16),.val (j 17),.val (j 18),.val (j 19),.val (j 20),.val (j 21),.val (j 22),.val (j 23),.val (j 24),.val (j 25),.val (j 26),.val (j 27),.val (j 28),.val (j 29),.val (j 30),.val (i 31),.tup [],.val (j 33),.val (j 34)],⟨[(1,.cells [ai 0,ai 0,.sl [] 0 .nl]),(2,.cells [ai x.k,ai x.n,.sl (vs.map .val) x.sub.length o])],3,[],0,[]⟩,[],[]):=by kernel_rfl
theorem spB4(j i:Nat->Value)(l:List Tm)(x:Tm)(vs:List Value)(o:Own):kfin Tryz.prog prim 0 Tryz.f47 3000 (.run (rgt (rgt (rgt (rgt (rgt (bod Tryz.f47))))))) [] [.val (j 0),.val (i 1),.mp 1 0,.val (j 3),.sl (flat tmCells l.reverse) l.length .no,.mp 2 0,.val (j 6),.mp 2 0,ai x.k,ab true,ab true,.mp 2 2,.val (i 12),ai (x.sub.length:Int),ab false,ab false,.val (j 16),.val (j 17),.val (j 18),.val (j 19),.val (j 20),.val (j 21),.val (j 22),.val (j 23),.val (j 24),.val (j 25),.val (j 26),.val (j 27),.val (j 28),.val (j 29),.val (j 30),.val (i 31),.tup [],.val (j 33),.val (j 34)] ⟨[(1,.cells [ai 0,ai 0,.sl [] 0 .nl]),(2,.cells [ai x.k,ai x.n,.sl (vs.map .val) x.sub.length o])],3,[],0,[]⟩ [.no,.no] [] [] [] false=some (.tup [.agg [ai x.k,ai x.n,.sl (vs.map .val) x.sub.length .no],.sl (flat tmCells l.reverse) l.length .no],[],[.data (vs.map .val),.data (flat tmCells l.reverse)]):=by kernel_rfl
theorem spC(j:Nat->Value)(p0:Tm)(q0:Option Addr×Nat×Nat)(ls:List L3)(x:Tm)(vs:List Value)(o:Own):kfin Tryz.prog prim 0 Tryz.f47 3000 (.run (inn (inn (lft (rgt (rgt (rgt (bod Tryz.f47)))))))) [.loop (inn (inn (lft (rgt (rgt (rgt (bod Tryz.f47))))))),.blk 0,.seq (rgt (rgt (rgt (rgt (bod Tryz.f47)))))] [.val (j 0),.mp 0 0,.mp 1 0,.val (j 3),.sl (flat c3 ls) ls.length (.st 0 3),.mp 2 0,.val (j 6),.val (j 7),.val (j 8),.val (j 9),.val (j 10),.val (j 11),.val (j 12),.val (j 13),.val (j 14),.val (j 15),.val (j 16),.val (j 17),.val (j 18),.val (j 19),.val (j 20),.val (j 21),.val (j 22),.val (j 23),.val (j 24),.val (j 25),.val (j 26),.val (j 27),.val (j 28),.val (j 29),.val (j 30),.val (j 31),.val (j 32),.val (j 33),.val (j 34)] ⟨[(0,.cells [.val (.int .i64 p0.k),.val (.int .i64 p0.n),.val (.slice q0.1 q0.2.1 q0.2.2)]),(1,.cells [ai 0,ai 0,.sl [] 0 .nl]),(2,.cells [ai x.k,ai x.n,.sl (vs.map .val) x.sub.length o])],3,[0],1,[]⟩ [.no,.bit true,.no,.no,.bit true,.no,.bit true,.no,.no] [] [] [] false=some (.tup [.agg [.val (.int .i64 p0.k),.val (.int .i64 p0.n),.val (.slice q0.1 q0.2.1 q0.2.2)],.sl [] 0 .no],[],[.bit (x.k==5) true,.bit ((x.sub.length:Int)==2) true,.bit (decide ((ls.length:Int)≥8192)) true,.data []]):=by kernel_rfl
theorem spD(i j:Nat->Value)(k n:Int)(a b:Tm)(qa qb:Option Addr×Nat×Nat)(u0 u1 u2:Value)(ls ls2:List L3)(o:Own):khead Tryz.prog prim 0 3000 (.run (inn (inn (lft (rgt (rgt (rgt (bod Tryz.f47)))))))) [.loop (inn (inn (lft (rgt (rgt (rgt (bod Tryz.f47))))))),.blk 0,.seq (rgt (rgt (rgt (rgt (bod Tryz.f47)))))] [.val (j 0),.mp 0 0,.mp 1 0,.val (j 3),.sl (flat c3 ls) ls.length (.st 0 3),.mp 2 0,.val (j 6),.val (j 7),.val (j 8),.val (j 9),.val (j 10),.val (j 11),.val (j 12),.val (j 13),.val (j 14),.val (j 15),.val (j 16),.val (j 17),.val (j 18),.val (j 19),.val (j 20),.val (j 21),.val (j 22),.val (j 23),.val (j 24),.val (j 25),.val (j 26),.val (j 27),.val (j 28),.val (j 29),.val (j 30),.val (j 31),.val (j 32),.val (j 33),.val (j 34)] ⟨[(0,.cells [.val u0,.val u1,.val u2]),(1,.cells [ai 0,ai 0,.sl [] 0 .nl]),(2,.cells [ai k,ai n,.sl [.val (.int .i64 a.k),.val (.int .i64 a.n),.val (.slice qa.1 qa.2.1 qa.2.2),.val (.int .i64 b.k),.val (.int .i64 b.n),.val (.slice qb.1 qb.2.1 qb.2.2)] 2 o])],3,[0],1,[]⟩ [.no,.bit true,.no,.no,.bit true,.no,.bit false,.no,.no,.no,.no,.app (flat c3 ls2) ls2.length 3 false,.no,.no,.no,.no] [] [0,1,2] [1] [1,2,4,5] i=some (inn (inn (lft (rgt (rgt (rgt (bod Tryz.f47)))))),[.blk 0,.seq (rgt (rgt (rgt (rgt (bod Tryz.f47)))))],[.val (i 0),.mp 0 0,.mp 1 0,.val (i 3),.sl (flat c3 ls2) ls2.length (.st 0 3),.mp 2 0,.val (i 6),.val (i 7),.val (i 8),.val (i 9),.val (i 10),.val (i 11),.val (i 12),.val (i 13),.val (i 14),.val (i 15),.val (i 16),.val (i 17),.val (i 18),.val (i 19),.val (i 20),.val (i 21),.val (i 22),.val (i 23),.val (i 24),.val (i 25),.val (i 26),.val (i 27),.val (i 28),.val (i 29),.val (i 30),.val (i 31),.val (i 32),.val (i 33),.val (i 34)],⟨[(0,.cells [.val u0,.val u1,.val u2]),(1,.cells [ai 0,ai 0,.sl [] 0 .nl]),(2,.cells [.val (.int .i64 a.k),.val (.int .i64 a.n),.val (.slice qa.1 qa.2.1 qa.2.2)])],3,[0],1,[]⟩,[.bit (k==5) true,.bit ((2:Int)==2) true,.bit (decide ((ls.length:Int)≥8192)) false,.app 29 29 (flat c3 ls) [.val (.int .i64 b.k),.val (.int .i64 b.n),.val (.slice qb.1 qb.2.1 qb.2.2)] (flat c3 ls2) ls.length 1 ls2.length 3 false,.data [],.data (flat c3 ls2)]):=by kernel_rfl
theorem spE(i:Nat->Value)(u0 u1:Int)(u2:Option Addr×Nat×Nat):khead Tryz.prog prim 0 3000 (.run (bod Tryz.f47)) [] ([.agg [.val (.int .i64 u0),.val (.int .i64 u1),.val (.slice u2.1 u2.2.1 u2.2.2)]]++List.replicate (Tryz.f47.ntmps-1) (.val undef)) (st0 []) [.no,.no] [(none,4,3)] [0,1,2] [0] [1,2,4,5] i=some (inn (inn (lft (rgt (rgt (rgt (bod Tryz.f47)))))),[.blk 0,.seq (rgt (rgt (rgt (rgt (bod Tryz.f47)))))],[.val (i 0),.mp 0 0,.mp 1 0,.val (i 3),.sl [] 0 (.st 0 3),.mp 2 0,.val (i 6),.val (i 7),.val (i 8),.val (i 9),.val (i 10),.val (i 11),.val (i 12),.val (i 13),.val (i 14),.val (i 15),.val (i 16),.val (i 17),.val (i 18),.val (i 19),.val (i 20),.val (i 21),.val (i 22),.val (i 23),.val (i 24),.val (i 25),.val (i 26),.val (i 27),.val (i 28),.val (i 29),.val (i 30),.val (i 31),.val (i 32),.val (i 33),.val (i 34)],⟨[(0,.cells [.val (.int .i64 u0),.val (.int .i64 u1),.val (.slice u2.1 u2.2.1 u2.2.2)]),(1,.cells [ai 0,ai 0,.sl [] 0 .nl]),(2,.cells [.val (.int .i64 u0),.val (.int .i64 u1),.val (.slice u2.1 u2.2.1 u2.2.2)])],3,[0],1,[]⟩,[.data [],.data []]):=by kernel_rfl
def sv(x:Tm)(q:Option Addr×Nat×Nat):List Value:=[.int .i64 x.k,.int .i64 x.n,.slice q.1 q.2.1 q.2.2]
def sv3(x:Tm)(q:Option Addr×Nat×Nat):L3:=⟨.int .i64 x.k,.int .i64 x.n,.slice q.1 q.2.1 q.2.2,rfl,rfl,rfl⟩
theorem VL.split{G:Gh}{w:World}:∀(cs bs:List AV) (us:List Value),VL G w (cs++bs) us->∃u1 u2,us=u1++u2∧VL G w cs u1∧VL G w bs u2
 | [],bs,us,h=>⟨[],us,rfl,by simp only[VL],h⟩
 |a::cs,bs,[],h=>by simp only[List.cons_append,VL]at h
 |a::cs,bs,u::us,h=>by
  simp only[List.cons_append,VL]at h
  obtain⟨u1,u2,rfl,h1,h2⟩:=VL.split cs bs us h.2
  exact⟨u::u1,u2,rfl,by simp only[VL];exact⟨h.1,h1⟩,h2⟩
theorem sv_of{G:Gh}{w:World}{x:Tm}{us:List Value}(h:VL G w (tmL x) us):∃q,us=sv x q:=by
 unfold tmL at h
 match us,h with
 | [],h=>simp only[VL]at h
 | [_],h=>simp only[VL,and_false]at h
 | [_,_],h=>simp only[VL,and_false]at h
 | [u0,u1,u2],h=>
  simp only[VL,and_true]at h
  obtain⟨h0,h1,h2⟩:=h
  simp only[V]at h0 h1 h2
  obtain⟨cap,_,⟨_,_,_,h,_⟩|⟨b,off,h,_⟩⟩:=h2
  ·obtain⟨p,h⟩:∃p,u2 = .slice p 0 0:=⟨_,h⟩
   exact⟨(p,0,0),by simp[sv,h0,h1,h]⟩
  ·exact⟨(some ⟨b,off,none⟩,x.sub.length,cap),by simp[sv,h0,h1,h]⟩
 |_::_::_::_::_,h=>simp only[VL,and_false]at h
theorem VC.lit{G G':Gh}{w w':World}(b:Nat)(hL:∀o,G.L b o->G'.L b o)(hc:∀o,w'.cell? ⟨b,o,none⟩=w.cell? ⟨b,o,none⟩):∀(vs:List Value) (off:Nat),VC G w (vs.map .val) b off->VC G' w' (vs.map .val) b off
 | [],_,_=>by simp only[List.map_nil,VC]
 |v::vs,off,h=>by
  simp only[List.map_cons,VC]at h ⊢
  obtain⟨h1,⟨u,h2,h3⟩,h4⟩:=h
  exact⟨hL _ h1,⟨u,(hc _).trans h2,by simpa only[V]using h3⟩,VC.lit b hL hc vs (off+1) h4⟩
theorem relit{G:Gh}{w:World}{vs:List Value}{n:Nat}{o:Own}{u:Value}{es:List AV}(h:V G w (.sl (vs.map .val) n o) u)(he:VL G w es vs):V G w (.sl es n .no) u:=by
 simp only[V]at h ⊢
 obtain⟨cap,hc,⟨h1,h2,h3,h4,_⟩|⟨b,off,h1,h2,_⟩⟩:=h
 ·have hv:vs=[]:=by simpa using h1
  subst hv
  have:=VL.length _ _ he
  exact⟨cap,hc,.inl ⟨List.length_eq_zero_iff.1 this.symm,h2,h3,h4,trivial⟩⟩
 ·refine⟨cap,hc,.inr ⟨b,off,h1,?_,trivial⟩⟩
  obtain⟨us,q1,q2⟩:=VC.cells _ _ _ h2
  have:=VL.litEq _ _ q1
  subst this
  exact VC.of_cells es us b off he (fun i hi=>(VC.cell _ _ _ i (.val us[i]) h2 (by simp[hi])).1) q2
theorem open_tm{na:Nb}{G0:Gh}{w:World}(hB:Base na G0){x:Tm}{q:Option Addr×Nat×Nat}(h:VL G0 w (tmL x) (sv x q)) :
  ∃(vs:List Value) (o:Own),VL G0 w (flat tmCells x.sub) vs∧VL G0 w [ai x.k,ai x.n,.sl (vs.map .val) x.sub.length o] (sv x q)∧Blk.lit (.cells [ai x.k,ai x.n,.sl (vs.map .val) x.sub.length o]):=by
 unfold tmL sv at h
 simp only[VL,and_true]at h
 obtain⟨_,_,h2⟩:=h
 have key:∃(vs:List Value) (o:Own),VL G0 w (flat tmCells x.sub) vs∧V G0 w (.sl (vs.map .val) x.sub.length o) (.slice q.1 q.2.1 q.2.2) ∧
   ∀(G G':Gh) (w w':World) (u:Value),G'.F=G.F->(∀b o,G.F b->G.L b o->G'.L b o)->(∀b o,G.F b->w'.cell? ⟨b,o,none⟩=w.cell? ⟨b,o,none⟩)->V G w (.sl (vs.map .val) x.sub.length o) u->V G' w' (.sl (vs.map .val) x.sub.length o) u:=by
  simp only[V]at h2
  obtain⟨cap,hc,⟨h1,h2,h3,h4,_⟩|⟨b,off,h1,h2,_⟩⟩:=h2
  ·refine⟨[],.no,by rw[h1];simp only[VL],?_,?_⟩
   ·simp only[V];exact⟨cap,hc,.inl ⟨rfl,h2,h3,h4,trivial⟩⟩
   ·intro G G' w w' u _ _ _ hu
    rw[h2]at hu ⊢
    exact V.none hu
  ·obtain⟨vs,q1,q2⟩:=VC.cells _ _ _ h2
   have hL:∀i,i<vs.length->G0.L b (off+i):=by
    intro i hi
    have hl:=VL.length _ _ q1
    exact(VC.cell _ _ _ i ((flat tmCells x.sub)[i]'(by omega)) h2 (by rw[List.getElem?_eq_getElem])).1
   have hcl:VC G0 w (vs.map .val) b off:=VC.of_cells _ vs b off (VL.lits vs) hL q2
   by_cases hs:vs=[]
   ·subst hs
    have hl:=VL.length _ _ q1
    have hfl:=flat_len codecT.len x.sub
    have h0:x.sub.length=0:=by simp at hl;omega
    refine⟨[],.no,q1,?_,?_⟩
    ·simp only[V];exact⟨cap,hc,.inr ⟨b,off,h1,hcl,trivial⟩⟩
    ·intro G G' w w' u _ _ _ hu
     rw[h0]at hu ⊢
     exact V.none hu
   ·have hF:G0.F b:=hB.LF b (off+0) (hL 0 (List.length_pos_iff.2 hs))
    refine⟨vs,.fr,q1,?_,?_⟩
    ·simp only[V];exact⟨cap,hc,.inr ⟨b,off,h1,hcl,hF⟩⟩
    ·intro G G' w w' u e1 e2 e3 hu
     simp only[V]at hu ⊢
     obtain⟨cap',hc',⟨p1,p2,p3,p4,_⟩|⟨b',off',p1,p2,p3⟩⟩:=hu
     ·exact⟨cap',hc',.inl ⟨p1,p2,p3,p4,trivial⟩⟩
     ·have p3':G.F b':=p3
      exact⟨cap',hc',.inr ⟨b',off',p1,VC.lit b' (fun o h=>e2 b' o p3' h) (fun o=>e3 b' o p3') vs off' p2,by show G'.F b';rw[e1];exact p3'⟩⟩
 obtain⟨vs,o,k1,k2,k3⟩:=key
 refine⟨vs,o,k1,?_,?_⟩
 ·simp only[sv,VL,V];simp only[V]at k2;exact⟨trivial,trivial,k2,trivial⟩
 ·intro G G' w w' us e1 e2 e3 hu
  match us,hu with
  | [],hu=>simp only[VL]at hu
  | [_],hu=>simp only[VL,and_false]at hu
  | [_,_],hu=>simp only[VL,and_false]at hu
  | [u0,u1,u2],hu=>
   simp only[VL,and_true]at hu ⊢
   exact⟨by simpa only[V]using hu.1,by simpa only[V]using hu.2.1,k3 G G' w w' u2 e1 e2 e3 hu.2.2⟩
  |_::_::_::_::_,hu=>simp only[VL,and_false]at hu
theorem zlit:Blk.lit (.cells [ai 0,ai 0,.sl [] 0 .nl]):=by
 intro G G' w w' us e1 e2 e3 hu
 match us,hu with
 | [],hu=>simp only[VL]at hu
 | [_],hu=>simp only[VL,and_false]at hu
 | [_,_],hu=>simp only[VL,and_false]at hu
 | [u0,u1,u2],hu=>
  simp only[VL,and_true]at hu ⊢
  refine⟨by simpa only[V]using hu.1,by simpa only[V]using hu.2.1,?_⟩
  have:=hu.2.2
  simp only[V]at this ⊢
  obtain⟨cap,h1,⟨_,_,h2,h3,h4⟩|⟨b,off,h2,_,h3⟩⟩:=this
  ·exact⟨cap,h1,.inl ⟨trivial,trivial,h2,h3,h4⟩⟩
  ·exact h3.elim
 |_::_::_::_::_,hu=>simp only[VL,and_false]at hu
def Good(G0:Gh)(res:AV)(r:Tm×List Tm):Prop:=∀W G' W',Ext G0 W G' W'->Keep G'.F G'.w0 W'->∀u,V G' W' res u->V G' W' (.tup [tmA r.1,.sl (flat tmCells r.2) (List.length r.2) .no]) u
def g47L0(p0:Tm):Tm->List Tm->Option (Tm×List Tm)
 | .mk k n [a,b],l=>
  if (k==5)=true then
   if decide ((List.length l:Int)≥8192)=true then some (p0,[])else(gapp 40 l [b])>>=fun l2=>g47L0 p0 a l2
  else some (.mk k n [a,b],l.reverse)
 |x,l=>some (x,l.reverse)
def g47(p0:Tm):Option (Tm×List Tm):=g47L0 p0 p0 []
theorem dVals:∀vs:List Value,AV.DataL (vs.map .val)
 | []=>trivial
 |_::vs=>⟨trivial,dVals vs⟩
theorem VL.rev{G:Gh}{w:World}:∀(l:List Tm) (ls:List L3),VL G w (flat tmCells l) (vals ls)->ls.length=l.length->VL G w (flat tmCells l.reverse) (vals ls.reverse)
 | [],[],_,_=>by simp[flat,vals,VL]
 |x::l,y::ls,h,hl=>by
  simp only[flat,vals,List.flatMap_cons]at h
  obtain⟨u1,u2,e,h1,h2⟩:=VL.split _ _ _ h
  have n1:=VL.length _ _ h1
  rw[codecT.len]at n1
  obtain⟨rfl,rfl⟩:=List.append_inj e (by rw[n1];rfl)
  have ih:=VL.rev l ls h2 (by simpa using hl)
  simp only[List.reverse_cons,flat,vals,List.flatMap_append,List.flatMap_cons,List.flatMap_nil,List.append_nil]
  exact VL.append _ _ _ _ ih h1
 | [],_::_,_,h=>by simp at h
 |_::_,[],_,h=>by simp at h
theorem good_exit{na:Nb}{G0:Gh}(hB:Base na G0){x:Tm}{l:List Tm}{vs:List Value}(v1:VL G0 G0.w0 (flat tmCells x.sub) vs)(hn:na.n=0:=by first|rfl|assumption):Good G0 (.tup [.agg [ai x.k,ai x.n,.sl (vs.map .val) x.sub.length .no],.sl (flat tmCells l.reverse) l.length .no]) (x,l.reverse):=by
 intro W G' W' hE hK u hu
 have v:=VL.later hB hE hK v1
 simp only[V,VL]at hu
 obtain⟨us,rfl,hus⟩:=hu
 match us,hus with
 | [],h=>simp only[VL]at h
 | [_],h=>simp only[VL,and_false]at h
 | [ua,ub],h=>
  simp only[VL,and_true]at h
  obtain⟨h1,h2⟩:=h
  simp only[V]at h1
  obtain⟨ws,rfl,hws⟩:=h1
  match ws,hws with
  | [],h=>simp only[VL]at h
  | [_],h=>simp only[VL,and_false]at h
  | [_,_],h=>simp only[VL,and_false]at h
  | [w0,w1,w2],h=>
   simp only[VL,and_true]at h
   obtain⟨g0,g1,g2⟩:=h
   have g3:=relit g2 v
   simp only[V]
   refine⟨[.agg #[w0,w1,w2],ub],rfl,?_⟩
   simp only[VL,and_true]
   refine⟨?_,by simpa using h2⟩
   simp only[tmA,V]
   exact⟨[w0,w1,w2],rfl,by simp only[tmL,VL,and_true];exact⟨g0,g1,g3⟩⟩
  |_::_::_::_::_,h=>simp only[VL,and_false]at h
 |_::_::_::_,h=>simp only[VL,and_false]at h
theorem good_long{na:Nb}{G0:Gh}(hB:Base na G0){x:Tm}{q:Option Addr×Nat×Nat}(h0:VL G0 G0.w0 (tmL x) (sv x q))(hn:na.n=0:=by first|rfl|assumption):Good G0 (.tup [.agg [.val (.int .i64 x.k),.val (.int .i64 x.n),.val (.slice q.1 q.2.1 q.2.2)],.sl [] 0 .no]) (x,[]):=by
 intro W G' W' hE hK u hu
 have v:=VL.later hB hE hK h0
 simp only[V,VL]at hu
 obtain⟨us,rfl,hus⟩:=hu
 match us,hus with
 | [],h=>simp only[VL]at h
 | [_],h=>simp only[VL,and_false]at h
 | [ua,ub],h=>
  simp only[VL,and_true]at h
  obtain⟨h1,h2⟩:=h
  simp only[V]at h1
  obtain⟨ws,rfl,hws⟩:=h1
  have hw:ws=sv x q:=VL.litEq (sv x q) ws hws
  subst hw
  simp only[V]
  refine⟨[.agg (sv x q).toArray,ub],rfl,?_⟩
  simp only[VL,and_true]
  refine⟨?_,by simpa[flat]using h2⟩
  simp only[tmA,V]
  exact⟨sv x q,rfl,v⟩
 |_::_::_::_,h=>simp only[VL,and_false]at h
theorem spAX{G0:Gh}{p0 x:Tm}{q0:Option Addr×Nat×Nat}{l:List Tm}{ls:List L3}{vs:List Value}{o:Own}(j:Nat->Value)(hlit:Blk.lit (.cells [ai x.k,ai x.n,.sl (vs.map .val) x.sub.length o]))(hl:VL G0 G0.w0 (flat tmCells l) (vals ls))(hlen:ls.length=l.length)(h8:l.length≤8192) :
  Dv Tryz.prog (⟨0,fun G=>G=G0⟩:Nb) (rgt (rgt (rgt (rgt (bod Tryz.f47))))) [.val (j 0),.mp 0 0,.mp 1 0,.val (j 3),.sl (flat c3 ls) ls.length (.st 0 3),.mp 2 0,.val (j 6),.mp 2 0,ai x.k,ab false,ab false,.val undef,.val undef,.val undef,.val undef,ab false,.val (j 16),.val (j 17),.val (j 18),.val (j 19),.val (j 20),.val (j 21),.val (j 22),.val (j 23),.val (j 24),.val (j 25),.val (j 26),.val (j 27),.val (j 28),.val (j 29),.val (j 30),.val (j 31),.val (j 32),.val (j 33),.val (j 34)] ⟨[(0,.cells [.val (.int .i64 p0.k),.val (.int .i64 p0.n),.val (.slice q0.1 q0.2.1 q0.2.2)]),(1,.cells [ai 0,ai 0,.sl [] 0 .nl]),(2,.cells [ai x.k,ai x.n,.sl (vs.map .val) x.sub.length o])],3,[0],1,[]⟩ (FinQ Tryz.prog (⟨0,fun G=>G=G0⟩:Nb) Tryz.f47 (.tup [.agg [ai x.k,ai x.n,.sl (vs.map .val) x.sub.length .no],.sl (flat tmCells l.reverse) l.length .no]) [] 0):=by
 have k1:knd (rgt (rgt (rgt (rgt (bod Tryz.f47)))))=1:=by kernel_rfl
 have k3:isReg (lft (rgt (rgt (rgt (rgt (bod Tryz.f47))))))=true:=by kernel_rfl
 have k4:clOf (regOps (lft (rgt (rgt (rgt (rgt (bod Tryz.f47)))))))[1]? = some (some 32,68,#[.tmp 31]):=by kernel_rfl
 have k5:(Tryz.f68.name == "runtime.NumGoroutine")=false:=by kernel_rfl
 have k6:Tryz.f68.body.isNone=false:=by kernel_rfl
 refine Dv.seqP k1 ?_
 obtain⟨id,k7⟩:=regP k3
 rw[k7]
 refine Dv.mut prim_ok (na:=(⟨0,fun G=>G=G0⟩:Nb)) rfl 1 [1,2] [(4,.sl (flat tmCells l.reverse) l.length .no)] (.tup []) (spA2 j ls x _ vs o) ObsOk.nil k4 Tryz.func68 k5 k6 ?_ ?_ (fun i=>spA3 j i ls l x _ vs o) ObsOk.nil ?_
 ·intro i X hm hX
  have:i=1∨i=2:=by simpa using any_beq.1 hm
  rcases this with rfl|rfl
  ·cases hX;exact zlit
  ·cases hX;exact hlit
 ·intro G1 W hB' G w hE hR u hu
  have e:=hB'.κ
  subst e
  refine(rev_call (l:=ls) hR (by rfl) (by omega) hu).mono ?_
  rintro e w' ⟨v,b,S,e1,e2,e3,e4,e5,e6,e7⟩
  refine⟨v,b,S,e1,e2,e3,e4,e5,fun G' hE' hK' hS=>⟨by subst e6;simp only[V];exact⟨[],rfl,by simp only[VL]⟩,?_⟩⟩
  intro p hp u' hu'
  have hp':=List.mem_singleton.1 hp
  subst hp'
  have:=e7 G' hS _ (VL.later hB' hE' hK' (VL.rev l ls hl hlen)) u' hu'
  rw[hlen]at this
  exact this
 ·intro i
  exact kfin_ok (na:=(⟨0,fun G=>G=G0⟩:Nb)) prim_ok mixed (spA4 j i l x vs o) (ObsOk.cons (obData (dVals vs)) (ObsOk.cons (obData (dT _)) ObsOk.nil)) (by decide)
theorem spBX{G0:Gh}{p0 x:Tm}{q0:Option Addr×Nat×Nat}{l:List Tm}{ls:List L3}{vs:List Value}{o:Own}(j:Nat->Value)(hlit:Blk.lit (.cells [ai x.k,ai x.n,.sl (vs.map .val) x.sub.length o]))(hl:VL G0 G0.w0 (flat tmCells l) (vals ls))(hlen:ls.length=l.length)(h8:l.length≤8192) :
  Dv Tryz.prog (⟨0,fun G=>G=G0⟩:Nb) (rgt (rgt (rgt (rgt (bod Tryz.f47))))) [.val (j 0),.mp 0 0,.mp 1 0,.val (j 3),.sl (flat c3 ls) ls.length (.st 0 3),.mp 2 0,.val (j 6),.mp 2 0,ai x.k,ab true,ab true,.mp 2 2,.sl (vs.map .val) x.sub.length o,ai (x.sub.length:Int),ab false,ab false,.val (j 16),.val (j 17),.val (j 18),.val (j 19),.val (j 20),.val (j 21),.val (j 22),.val (j 23),.val (j 24),.val (j 25),.val (j 26),.val (j 27),.val (j 28),.val (j 29),.val (j 30),.val (j 31),.val (j 32),.val (j 33),.val (j 34)] ⟨[(0,.cells [.val (.int .i64 p0.k),.val (.int .i64 p0.n),.val (.slice q0.1 q0.2.1 q0.2.2)]),(1,.cells [ai 0,ai 0,.sl [] 0 .nl]),(2,.cells [ai x.k,ai x.n,.sl (vs.map .val) x.sub.length o])],3,[0],1,[]⟩ (FinQ Tryz.prog (⟨0,fun G=>G=G0⟩:Nb) Tryz.f47 (.tup [.agg [ai x.k,ai x.n,.sl (vs.map .val) x.sub.length .no],.sl (flat tmCells l.reverse) l.length .no]) [] 0):=by
 have k1:knd (rgt (rgt (rgt (rgt (bod Tryz.f47)))))=1:=by kernel_rfl
 have k3:isReg (lft (rgt (rgt (rgt (rgt (bod Tryz.f47))))))=true:=by kernel_rfl
 have k4:clOf (regOps (lft (rgt (rgt (rgt (rgt (bod Tryz.f47)))))))[1]? = some (some 32,68,#[.tmp 31]):=by kernel_rfl
 have k5:(Tryz.f68.name == "runtime.NumGoroutine")=false:=by kernel_rfl
 have k6:Tryz.f68.body.isNone=false:=by kernel_rfl
 refine Dv.seqP k1 ?_
 obtain⟨id,k7⟩:=regP k3
 rw[k7]
 refine Dv.mut prim_ok (na:=(⟨0,fun G=>G=G0⟩:Nb)) rfl 1 [1,2] [(4,.sl (flat tmCells l.reverse) l.length .no)] (.tup []) (spB2 j ls x _ vs o) ObsOk.nil k4 Tryz.func68 k5 k6 ?_ ?_ (fun i=>spB3 j i ls l x _ vs o) ObsOk.nil ?_
 ·intro i X hm hX
  have:i=1∨i=2:=by simpa using any_beq.1 hm
  rcases this with rfl|rfl
  ·cases hX;exact zlit
  ·cases hX;exact hlit
 ·intro G1 W hB' G w hE hR u hu
  have e:=hB'.κ
  subst e
  refine(rev_call (l:=ls) hR (by rfl) (by omega) hu).mono ?_
  rintro e w' ⟨v,b,S,e1,e2,e3,e4,e5,e6,e7⟩
  refine⟨v,b,S,e1,e2,e3,e4,e5,fun G' hE' hK' hS=>⟨by subst e6;simp only[V];exact⟨[],rfl,by simp only[VL]⟩,?_⟩⟩
  intro p hp u' hu'
  have hp':=List.mem_singleton.1 hp
  subst hp'
  have:=e7 G' hS _ (VL.later hB' hE' hK' (VL.rev l ls hl hlen)) u' hu'
  rw[hlen]at this
  exact this
 ·intro i
  exact kfin_ok (na:=(⟨0,fun G=>G=G0⟩:Nb)) prim_ok mixed (spB4 j i l x vs o) (ObsOk.cons (obData (dVals vs)) (ObsOk.cons (obData (dT _)) ObsOk.nil)) (by decide)
theorem apC22{l m r:List L3}(h:gapp 40 l m=some r)(hm:m.length≠0):Ob.ok Tryz.prog (.app 29 29 (flat c3 l) (flat c3 m) (flat c3 r) l.length m.length r.length 3 false):=app_some codec3 Tryz.underlying29 info31 rfl rfl rfl (by decide) rfl (by decide) h hm
theorem g135_exit{p0 x:Tm}{l:List Tm}{r:Tm×List Tm}(h:g47L0 p0 x l=some r)(hx:¬((x.k==5)=true∧x.sub.length=2)):r=(x,l.reverse):=by
 obtain⟨k,n,sub⟩:=x
 unfold g47L0 at h
 split at h
 ·rename_i k' n' a b e
  cases e
  split at h
  ·rename_i hk
   exact(hx ⟨hk,rfl⟩).elim
  ·cases h;rfl
 ·cases h;rfl
theorem spine_loop{p0:Tm}{q0:Option Addr×Nat×Nat}{G0:Gh}(hB:Base (⟨0,fun G=>G=G0⟩:Nb) G0)(h0:VL G0 G0.w0 (tmL p0) (sv p0 q0)):∀(N:Nat) (x:Tm) (l:List Tm) (r:Tm×List Tm) (hN:SizeOf.sizeOf x≤N) (h:g47L0 p0 x l=some r) (h8:l.length≤8192) (q:Option Addr×Nat×Nat) (ls:List L3)
  (hx:VL G0 G0.w0 (tmL x) (sv x q)) (hl:VL G0 G0.w0 (flat tmCells l) (vals ls)) (hlen:ls.length=l.length),∃res,Good G0 res r∧∀j:Nat->Value,Dl Tryz.prog (⟨0,fun G=>G=G0⟩:Nb) (inn (inn (lft (rgt (rgt (rgt (bod Tryz.f47))))))) [.val (j 0),.mp 0 0,.mp 1 0,.val (j 3),.sl (flat c3 ls) ls.length (.st 0 3),.mp 2 0,.val (j 6),.val (j 7),.val (j 8),.val (j 9),.val (j 10),.val (j 11),.val (j 12),.val (j 13),.val (j 14),.val (j 15),.val (j 16),.val (j 17),.val (j 18),.val (j 19),.val (j 20),.val (j 21),.val (j 22),.val (j 23),.val (j 24),.val (j 25),.val (j 26),.val (j 27),.val (j 28),.val (j 29),.val (j 30),.val (j 31),.val (j 32),.val (j 33),.val (j 34)] ⟨[(0,.cells [.val (.int .i64 p0.k),.val (.int .i64 p0.n),.val (.slice q0.1 q0.2.1 q0.2.2)]),(1,.cells [ai 0,ai 0,.sl [] 0 .nl]),(2,.cells [.val (.int .i64 x.k),.val (.int .i64 x.n),.val (.slice q.1 q.2.1 q.2.2)])],3,[0],1,[]⟩ (frameQ Tryz.prog (⟨0,fun G=>G=G0⟩:Nb) (FinQ Tryz.prog (⟨0,fun G=>G=G0⟩:Nb) Tryz.f47 res [] 0) [.blk 0,.seq (rgt (rgt (rgt (rgt (bod Tryz.f47)))))]):=by
 intro N
 induction N with
 |zero=>
  intro x l r hN
  obtain⟨k,n,sub⟩:=x
  simp at hN
 |succ N spine_ih=>
 intro x l r hN h h8 q ls hx hl hlen
 obtain⟨vs,o,v1,v2,v3⟩:=open_tm hB hx
 have hopen:∀ {res:AV} (j:Nat->Value),Dl Tryz.prog (⟨0,fun G=>G=G0⟩:Nb) (inn (inn (lft (rgt (rgt (rgt (bod Tryz.f47))))))) [.val (j 0),.mp 0 0,.mp 1 0,.val (j 3),.sl (flat c3 ls) ls.length (.st 0 3),.mp 2 0,.val (j 6),.val (j 7),.val (j 8),.val (j 9),.val (j 10),.val (j 11),.val (j 12),.val (j 13),.val (j 14),.val (j 15),.val (j 16),.val (j 17),.val (j 18),.val (j 19),.val (j 20),.val (j 21),.val (j 22),.val (j 23),.val (j 24),.val (j 25),.val (j 26),.val (j 27),.val (j 28),.val (j 29),.val (j 30),.val (j 31),.val (j 32),.val (j 33),.val (j 34)] ⟨[(0,.cells [.val (.int .i64 p0.k),.val (.int .i64 p0.n),.val (.slice q0.1 q0.2.1 q0.2.2)]),(1,.cells [ai 0,ai 0,.sl [] 0 .nl]),(2,.cells [ai x.k,ai x.n,.sl (vs.map .val) x.sub.length o])],3,[0],1,[]⟩ (frameQ Tryz.prog (⟨0,fun G=>G=G0⟩:Nb) (FinQ Tryz.prog (⟨0,fun G=>G=G0⟩:Nb) Tryz.f47 res [] 0) [.blk 0,.seq (rgt (rgt (rgt (rgt (bod Tryz.f47)))))])->Dl Tryz.prog (⟨0,fun G=>G=G0⟩:Nb) (inn (inn (lft (rgt (rgt (rgt (bod Tryz.f47))))))) [.val (j 0),.mp 0 0,.mp 1 0,.val (j 3),.sl (flat c3 ls) ls.length (.st 0 3),.mp 2 0,.val (j 6),.val (j 7),.val (j 8),.val (j 9),.val (j 10),.val (j 11),.val (j 12),.val (j 13),.val (j 14),.val (j 15),.val (j 16),.val (j 17),.val (j 18),.val (j 19),.val (j 20),.val (j 21),.val (j 22),.val (j 23),.val (j 24),.val (j 25),.val (j 26),.val (j 27),.val (j 28),.val (j 29),.val (j 30),.val (j 31),.val (j 32),.val (j 33),.val (j 34)] ⟨[(0,.cells [.val (.int .i64 p0.k),.val (.int .i64 p0.n),.val (.slice q0.1 q0.2.1 q0.2.2)]),(1,.cells [ai 0,ai 0,.sl [] 0 .nl]),(2,.cells [.val (.int .i64 x.k),.val (.int .i64 x.n),.val (.slice q.1 q.2.1 q.2.2)])],3,[0],1,[]⟩ (frameQ Tryz.prog (⟨0,fun G=>G=G0⟩:Nb) (FinQ Tryz.prog (⟨0,fun G=>G=G0⟩:Nb) Tryz.f47 res [] 0) [.blk 0,.seq (rgt (rgt (rgt (rgt (bod Tryz.f47)))))]):=by
  intro res j hd
  refine Dl.openB (b:=2) (cs:=[.val (.int .i64 x.k),.val (.int .i64 x.n),.val (.slice q.1 q.2.1 q.2.2)]) (cs':=[ai x.k,ai x.n,.sl (vs.map .val) x.sub.length o]) rfl (fun G1 W hB' G w hE hK us hus=>?_) hd
  have e:=hB'.κ
  subst e
  have hu:us=sv x q:=VL.litEq (sv x q) us hus
  subst hu
  exact VL.later hB' hE hK v2
 by_cases hk:(x.k==5)=true
 ·by_cases h2:x.sub.length=2
  ·obtain⟨k,n,sub⟩:=x
   match sub,h2 with
   | [a,b],_=>
   rw[g47L0]at h
   replace h:=ifT hk h
   rcases bcases (decide ((List.length l:Int)≥8192))with h3|h3
   ·replace h:=ifT h3 h
    cases h
    exact⟨_,good_long hB h0,fun j=>hopen j (Dl.toFin (na:=(⟨0,fun G=>G=G0⟩:Nb)) prim_ok mixed 3000 _ _ _ _ _ (spC j p0 q0 ls (.mk k n [a,b]) vs o) (ObsOk.cons (obBit hk) (ObsOk.cons (obBit rfl) (ObsOk.cons (obBit (by rw[hlen];exact h3)) (ObsOk.cons (obData trivial) ObsOk.nil)))) (by decide))⟩
   ·replace h:=ifF h3 h
    obtain⟨l2,hg,h⟩:=obind h
    obtain⟨hg1,rfl⟩:=gapp_spec hg
    have w1:VL G0 G0.w0 (tmCells a++(tmCells b++[])) vs:=v1
    obtain⟨ua,u2,rfl,wa,w2⟩:=VL.split _ _ _ w1
    obtain⟨ub,u3,rfl,wb,w3⟩:=VL.split _ _ _ w2
    have e3:u3=[]:=by
     have:=VL.length _ _ w3
     exact List.length_eq_zero_iff.1 this
    subst e3
    rw[tm_eq]at wa wb
    obtain⟨qa,rfl⟩:=sv_of wa
    obtain⟨qb,rfl⟩:=sv_of wb
    have h3':List.length l<8192:=by
     have:=of_decide_eq_false h3
     omega
    have hl2:VL G0 G0.w0 (flat tmCells (l++[b])) (vals (ls++[sv3 b qb])):=by
     simp only[flat,vals,List.flatMap_append,List.flatMap_cons,List.flatMap_nil,List.append_nil]
     refine VL.append _ _ _ _ hl ?_
     rw[tm_eq];exact wb
    have hga:gapp 40 ls [sv3 b qb]=some (ls++[sv3 b qb]):=by
     unfold gapp
     rw[if_pos]
     simp only[List.length_cons,List.length_nil]at hg1 ⊢
     rw[hlen];exact hg1
    obtain⟨res,hgood,hdl⟩:=spine_ih a (l++[b]) r (by simp at hN;omega) h (by simp;omega) qa (ls++[sv3 b qb]) wa hl2 (by simp[hlen])
    refine⟨res,hgood,fun j=>hopen j (Dl.toHead (na:=(⟨0,fun G=>G=G0⟩:Nb)) prim_ok mixed 3000 _ _ _ _ _ (fun i=>spD i j k n a b qa qb _ _ _ ls (ls++[sv3 b qb]) o) ?_ fun i=>hdl i)⟩
    exact ObsOk.cons (obBit hk) (ObsOk.cons (obBit rfl) (ObsOk.cons (obBit (by rw[hlen];exact h3)) (ObsOk.cons (apC22 (m:=[sv3 b qb]) hga (by simp)) (ObsOk.cons (obData trivial) (ObsOk.cons (obData (flat_data codec3.data _)) ObsOk.nil)))))
  ·have hr:=g135_exit h (fun e=>h2 e.2)
   subst hr
   refine⟨.tup [.agg [ai x.k,ai x.n,.sl (vs.map .val) x.sub.length .no],.sl (flat tmCells l.reverse) l.length .no],good_exit hB v1,fun j=>hopen j (Dl.step ?_)⟩
   have hx1:=spBX (G0:=G0) (p0:=p0) (q0:=q0) j v3 hl hlen h8
   refine krun_ok (Q:=_) prim_ok mixed 3000 (.run (inn (inn (lft (rgt (rgt (rgt (bod Tryz.f47)))))))) [] _ _ _ _ _ _ _ _ (spB1 j ls x _ vs o) (ObsOk.cons (obBit hk) (ObsOk.cons (obBit (by simp;omega)) ObsOk.nil)) ?_
   simp only[KQ,seqQ,frameQ,blockQ,if_true]
   exact hx1
 ·have hr:=g135_exit h (fun e=>hk e.1)
  subst hr
  ·refine⟨.tup [.agg [ai x.k,ai x.n,.sl (vs.map .val) x.sub.length .no],.sl (flat tmCells l.reverse) l.length .no],good_exit hB v1,fun j=>hopen j (Dl.step ?_)⟩
   have hx1:=spAX (G0:=G0) (p0:=p0) (q0:=q0) j v3 hl hlen h8
   refine krun_ok (Q:=_) prim_ok mixed 3000 (.run (inn (inn (lft (rgt (rgt (rgt (bod Tryz.f47)))))))) [] _ _ _ _ _ _ _ _ (spA1 j ls x _ vs o) (ObsOk.cons (obBit (by simpa using hk)) ObsOk.nil) ?_
   simp only[KQ,seqQ,frameQ,blockQ,if_true]
   exact hx1
theorem c47g{p0:Tm}{r:Tm×List Tm}(h:g47 p0=some r):CT Tryz.prog 47 [] [tmA p0] (.tup [tmA r.1,.sl (flat tmCells r.2) (List.length r.2) .no]) [] 0:=by
 refine⟨?_,⟨⟨trivial,trivial,⟨trivial,dT _⟩,trivial⟩,trivial⟩,(fun _ h=>nomatch h),⟨⟨trivial,trivial,dT _,trivial⟩,dT _,trivial⟩,(fun _ h=>nomatch h)⟩
 intro G0 W cargs hB hR hv
 cases hc:cargs.toList with
 |nil=>rw[hc]at hv;simp only[VL]at hv
 |cons u us=>
  rw[hc]at hv
  simp only[VL]at hv
  obtain⟨hu,hus⟩:=hv
  have hus':us=[]:=by
   have:=VL.length _ _ hus
   exact List.length_eq_zero_iff.1 this
  subst hus'
  simp only[tmA,V]at hu
  obtain⟨ws,rfl,hws⟩:=hu
  obtain⟨q0,rfl⟩:=sv_of hws
  have hBK:Base (⟨0,fun G=>G=G0⟩:Nb) G0:=⟨hB.ρ,hB.τ,hB.LF,rfl⟩
  have h0:=VL.back hB hR hws
  obtain⟨res,hgood,hdl⟩:=spine_loop hBK h0 _ p0 [] r (Nat.le_refl _) h (by simp) q0 [] h0 (by simp[flat,vals,VL]) rfl
  have hv2:VL G0 W [.agg [.val (.int .i64 p0.k),.val (.int .i64 p0.n),.val (.slice q0.1 q0.2.1 q0.2.2)]] cargs.toList:=by
   rw[hc]
   simp only[VL,V,and_true]
   exact⟨sv p0 q0,rfl,VL.lits (sv p0 q0)⟩
  have hb:=body_at (na:=(⟨0,fun G=>G=G0⟩:Nb)) (res:=res) (H1:=[]) (nst:=0) rfl Tryz.func47 (by kernel_rfl) (khead_ok (na:=(⟨0,fun G=>G=G0⟩:Nb)) (m:=.run (bod Tryz.f47)) (fs:=[]) prim_ok mixed (fun i=>spE i p0.k p0.n q0) (ObsOk.cons (obData trivial) (ObsOk.cons (obData trivial) ObsOk.nil)) fun i=>hdl i) hBK hR hv2
  refine hb.mono ?_
  rintro e W' ⟨u,G',s',rfl,hE,hR',hu,h1,h2⟩
  exact⟨u,G',s',rfl,hE,hR',hgood W G' W' hE hR'.below u hu,h1,h2⟩
def e47(_qq:Nat)(p0:Tm):Option (Tm×List Tm):=g47 p0
theorem c47{qq:Nat}{p0:Tm}{r:Tm×List Tm}(h:e47 qq p0=some r):CT Tryz.prog 47 [] [tmA p0] (.tup [tmA r.1,.sl (flat tmCells r.2) (List.length r.2) .no]) [] 0:=c47g h
def e88Lbf:Nat->Int->Int->(Tm×List Tm)->Int->Option (Bool)
 |0,_,_,_,_=>none
 |qq+1,p2,p4,r1,v37=>
 if decide (v37<p2)then
 gidx r1.2 v37>>=fun x7=>
 if x7.k != 1 then
 none
 else
 if x7.n != (w64 ((w64 (p4-1))-v37))then
 none
 else
 e88Lbf qq p2 p4 r1 (w64 (v37+1))
 else
 some true
def e88(qq:Nat)(p0:Tm)(p1 p2 p3 p4:Int):Option (Bool):=
 e47 qq p0>>=fun r1=>
 if r1.1.k != 6 then
 none
 else
 if r1.1.n != p1 then
 none
 else
 if (List.length r1.2:Int) != (w64 (p2+p3))then
 none
 else
 e88Lbf qq p2 p4 r1 0
def g88LbfE0(j:Nat->Value)(p2 p4:Int)(r1:Tm×List Tm)(v37:Int):=sp j 59 0 [(4,ai p4),(12,slv tmCells r1.2 .no),(36,ai p2),(37,ai v37)]
def g88LbfS0(p2 p4:Int)(r1:Tm×List Tm)(v37:Int):LSt:=⟨[],0,[],0,[]⟩
abbrev K88 (p0:Tm) (p1 p2 p3 p4:Int) (r:Bool) (C:Cf):Prop:=C 88 [] [tmA p0,ai p1,ai p2,ai p3,ai p4] (ab r) [] 0
theorem q88:Qf 88 Tryz.f88:=⟨Tryz.func88,by kernel_rfl⟩
theorem k88{p0 p1 p2 p3 p4 r}(h:K88 p0 p1 p2 p3 p4 r Ci):K88 p0 p1 p2 p3 p4 r Ct:=⟨h,⟨⟨tv,tv,⟨tv,dT _⟩,tv⟩,tv,tv,tv,tv,tv⟩,forall_nil,tv,forall_nil⟩
theorem l88Lbf:∀qq:Nat,(∀p2 p4 r1 v37 r,e88Lbf qq p2 p4 r1 v37=some r->(∀j,Dl Tryz.prog 0 (inn (inn (rgt (lft (rgt (rgt (rgt (bod Tryz.f88)))))))) (g88LbfE0 j p2 p4 r1 v37) (g88LbfS0 p2 p4 r1 v37) (frameQ Tryz.prog 0 (FinQ Tryz.prog 0 Tryz.f88 (ab r) [] 0) [.blk 0,.seq (rgt (rgt (rgt (rgt (bod Tryz.f88)))))]))):=by
 intro qq
 induction qq with
 |zero=>
  exact fun _ _ _ _ _ h=>nn h
 |succ qq ih=>
  intro p2 p4 r1 v37 r h
  rw[e88Lbf]at h
  rcases spl h with⟨h6,h⟩|⟨h6,h⟩
  obtain⟨x7,h8,h⟩:=obind h
  have k:=oA 0 (ix29 (o:=.no) h8)<|oB 0 h6 o0
  obtain⟨h9,h⟩:=splF h
  have k:=oA 0 (ix29 (o:=.no) h8)<|oB 1 h9 k
  obtain⟨h10,h⟩:=splF h
  exact fun j=>lH 1 [] [] [] [4,12,36,37] (oD (dT r1.2)<|oB 3 h10 k) (ih _ _ _ _ _ h)
  obtain rfl:=sj h
  exact fun j=>lF 0 [] (oB 0 h6 o0)
theorem c88{qq p0 p1 p2 p3 p4 r}(h:e88 qq p0 p1 p2 p3 p4=some r):K88 p0 p1 p2 p3 p4 r Ct:=by
 unfold e88 at h
 obtain⟨r1,h2,h⟩:=obind h
 have k:=oC 1 [] (c47 h2) o0
 obtain⟨h3,h⟩:=splF h
 have k:=oB 4 h3 k
 obtain⟨h4,h⟩:=splF h
 have k:=oB 1 h4 k
 obtain⟨h5,h⟩:=splF h
 exact k88 (tH q88 0 [] [] [] [4,12,36,37] (oD (dT r1.2)<|oB 2 h5 k) (l88Lbf _ _ _ _ _ _ h))
def e54(qq:Nat)(p0:List Ent)(p1:Int):Option (Bool):=
 gidx p0 p1>>=fun x1=>
 e44 qq x1.type>>=fun r3=>
 e87 qq p0 p1>>=fun r5=>
 if r5 then
 if r3.2.2==0 then
 if decide ((List.length r3.1:Int)≥x1.pars)then
 gidx p0 x1.fam>>=fun x10=>
 e88 qq r3.2.1 x1.fam x1.pars x10.inds (List.length r3.1:Int)>>=fun r12=>
 some r12
 else
 none
 else
 none
 else
 none
abbrev K54 (p0:List Ent) (p1:Int) (r:Bool) (C:Cf):Prop:=C 54 [] [slv entL p0 .no,ai p1] (ab r) [] 0
theorem q54:Qf 54 Tryz.f54:=⟨Tryz.func54,by kernel_rfl⟩
theorem k54{p0 p1 r}(h:K54 p0 p1 r Ci):K54 p0 p1 r Ct:=⟨h,⟨⟨tv,dE _⟩,tv,tv⟩,forall_nil,tv,forall_nil⟩
theorem c54{qq p0 p1 r}(h:e54 qq p0 p1=some r):K54 p0 p1 r Ct:=by
 unfold e54 at h
 obtain⟨x1,h2,h⟩:=obind h
 obtain⟨r3,h4,h⟩:=obind h
 obtain⟨r5,h6,h⟩:=obind h
 have k:=oC 1 [] (c44 h4)<|oA 0 (ix22 (o:=.no) h2) o0
 obtain⟨h7,h⟩:=spT h
 have k:=oK 4 [] h7 (c87 h6) k
 obtain⟨h8,h⟩:=spT h
 have k:=oA 1 (ix22 (o:=.no) h2)<|oB 0 h8 k
 obtain⟨h9,h⟩:=spT h
 obtain⟨x10,h11,h⟩:=obind h
 obtain⟨r12,h13,h⟩:=obind h
 obtain rfl:=sj h
 exact k54 (tF q54 0 [] (oC 2 [] (c88 h13)<|oA 1 (ix22 (o:=.no) h11)<|oA 1 (ix22 (o:=.no) h2)<|oA 1 (ix22 (o:=.no) h2)<|oA 1 (ix22 (o:=.no) h2)<|oB 1 h9 k))
def e55(qq:Nat)(p0:List Ent)(p1:Int):Option (Bool):=
 e87 qq p0 p1>>=fun r1=>
 if r1 then
 gidx p0 p1>>=fun x4=>
 e35 qq x4.type (w64 (x4.pars+1))>>=fun r6=>
 if r6.2.2==0 then
 gidx r6.1 x4.pars>>=fun x9=>
 e88 qq x9 x4.fam x4.pars 0 x4.pars>>=fun r11=>
 some r11
 else
 none
 else
 none
abbrev K55 (p0:List Ent) (p1:Int) (r:Bool) (C:Cf):Prop:=C 55 [] [slv entL p0 .no,ai p1] (ab r) [] 0
theorem q55:Qf 55 Tryz.f55:=⟨Tryz.func55,by kernel_rfl⟩
theorem k55{p0 p1 r}(h:K55 p0 p1 r Ci):K55 p0 p1 r Ct:=⟨h,⟨⟨tv,dE _⟩,tv,tv⟩,forall_nil,tv,forall_nil⟩
theorem c55{qq p0 p1 r}(h:e55 qq p0 p1=some r):K55 p0 p1 r Ct:=by
 unfold e55 at h
 obtain⟨r1,h2,h⟩:=obind h
 obtain⟨h3,h⟩:=spT h
 obtain⟨x4,h5,h⟩:=obind h
 obtain⟨r6,h7,h⟩:=obind h
 have k:=oC 2 [] (c35 h7)<|oA 1 (ix22 (o:=.no) h5)<|oA 1 (ix22 (o:=.no) h5)<|oK 0 [] h3 (c87 h2) o0
 obtain⟨h8,h⟩:=spT h
 obtain⟨x9,h10,h⟩:=obind h
 obtain⟨r11,h12,h⟩:=obind h
 obtain rfl:=sj h
 exact k55 (tF q55 0 [] (oC 1 [] (c88 h12)<|oA 1 (ix22 (o:=.no) h5)<|oA 1 (ix22 (o:=.no) h5)<|oA 1 (ix22 (o:=.no) h5)<|oA 1 (ix29 (o:=.no) h10)<|oA 0 (ix22 (o:=.no) h5)<|oB 4 h8 k))
def e56(qq:Nat)(p0:List Ent)(p1:Int):Option (Bool):=
 gidx p0 p1>>=fun x1=>
 e52 qq x1.body p1>>=fun r3=>
 if r3 then
 if x1.fam==0 then
 if x1.place==0 then
 if x1.pars==0 then
 if x1.inds==0 then
 if x1.level==0 then
 some ((w64 ((List.length x1.cons:Int)+(List.length x1.fields:Int)))==0)
 else
 none
 else
 none
 else
 none
 else
 none
 else
 none
 else
 none
abbrev K56 (p0:List Ent) (p1:Int) (r:Bool) (C:Cf):Prop:=C 56 [] [slv entL p0 .no,ai p1] (ab r) [] 0
theorem q56:Qf 56 Tryz.f56:=⟨Tryz.func56,by kernel_rfl⟩
theorem k56{p0 p1 r}(h:K56 p0 p1 r Ci):K56 p0 p1 r Ct:=⟨h,⟨⟨tv,dE _⟩,tv,tv⟩,forall_nil,tv,forall_nil⟩
theorem c56{qq p0 p1 r}(h:e56 qq p0 p1=some r):K56 p0 p1 r Ct:=by
 unfold e56 at h
 obtain⟨x1,h2,h⟩:=obind h
 obtain⟨r3,h4,h⟩:=obind h
 have k:=oA 0 (ix22 (o:=.no) h2) o0
 obtain⟨h5,h⟩:=spT h
 have k:=oK 3 [] h5 (c52 h4) k
 obtain⟨h6,h⟩:=spT h
 have k:=oB 1 h6 k
 obtain⟨h7,h⟩:=spT h
 have k:=oB 1 h7 k
 obtain⟨h8,h⟩:=spT h
 have k:=oB 1 h8 k
 obtain⟨h9,h⟩:=spT h
 have k:=oB 1 h9 k
 obtain⟨h10,h⟩:=spT h
 obtain rfl:=sj h
 exact k56 (tF q56 6 [] (oB 1 h10 k))
def e33(qq:Nat)(p0:List Ent)(p1:Int):Option (Bool):=
 gidx p0 p1>>=fun x1=>
 e51 qq x1.name>>=fun r3=>
 if r3 then
 e52 qq x1.type p1>>=fun r6=>
 if r6 then
 if x1.kind==1 then
 e53 qq p0 p1>>=fun r10=>
 some r10
 else
 if x1.kind==2 then
 e54 qq p0 p1>>=fun r13=>
 some r13
 else
 if x1.kind==4 then
 e55 qq p0 p1>>=fun r16=>
 some r16
 else
 if x1.kind==3 then
 e56 qq p0 p1>>=fun r19=>
 some r19
 else
 none
 else
 none
 else
 none
abbrev K33 (p0:List Ent) (p1:Int) (r:Bool) (C:Cf):Prop:=C 33 [] [slv entL p0 .no,ai p1] (ab r) [] 0
theorem q33:Qf 33 Tryz.f33:=⟨Tryz.func33,by kernel_rfl⟩
theorem k33{p0 p1 r}(h:K33 p0 p1 r Ci):K33 p0 p1 r Ct:=⟨h,⟨⟨tv,dE _⟩,tv,tv⟩,forall_nil,tv,forall_nil⟩
theorem c33{qq p0 p1 r}(h:e33 qq p0 p1=some r):K33 p0 p1 r Ct:=by
 unfold e33 at h
 obtain⟨x1,h2,h⟩:=obind h
 obtain⟨r3,h4,h⟩:=obind h
 have k:=oA 0 (ix22 (o:=.no) h2) o0
 obtain⟨h5,h⟩:=spT h
 obtain⟨r6,h7,h⟩:=obind h
 have k:=oA 1 (ix22 (o:=.no) h2)<|oK 1 [] h5 (c51 h4) k
 obtain⟨h8,h⟩:=spT h
 have k:=oA 1 (ix22 (o:=.no) h2)<|oK 1 [] h8 (c52 h7) k
 rcases spl h with⟨h9,h⟩|⟨h9,h⟩
 obtain⟨r10,h11,h⟩:=obind h
 obtain rfl:=sj h
 exact k33 (tF q33 0 [] (oC 0 [] (c53 h11)<|oB 1 h9 k))
 have k:=oB 1 h9 k
 rcases spl h with⟨h12,h⟩|⟨h12,h⟩
 obtain⟨r13,h14,h⟩:=obind h
 obtain rfl:=sj h
 exact k33 (tF q33 0 [] (oC 0 [] (c54 h14)<|oB 0 h12 k))
 have k:=oB 0 h12 k
 rcases spl h with⟨h15,h⟩|⟨h15,h⟩
 obtain⟨r16,h17,h⟩:=obind h
 obtain rfl:=sj h
 exact k33 (tF q33 0 [] (oC 0 [] (c55 h17)<|oB 0 h15 k))
 have k:=oB 0 h15 k
 obtain⟨h18,h⟩:=spT h
 obtain⟨r19,h20,h⟩:=obind h
 obtain rfl:=sj h
 exact k33 (tF q33 0 [] (oC 0 [] (c56 h20)<|oB 0 h18 k))
def e19Lbg:Nat->(List Ent)->Int->Option (Bool)
 |0,_,_=>none
 |qq+1,p0,v15=>
 if decide (v15<(List.length p0:Int))then
 e33 qq p0 v15>>=fun r8=>
 if r8 then
 e19Lbg qq p0 (w64 (v15+1))
 else
 none
 else
 some true
def e19(qq:Nat)(p0:List Ent):Option (Bool):=
 if decide ((List.length p0:Int)>256)then
 none
 else
 e32 qq p0>>=fun r2=>
 e31 qq r2>>=fun r4=>
 if r4 then
 e19Lbg qq p0 0
 else
 none
def g19LbgE0(j:Nat->Value)(p0:List Ent)(v15:Int):=sp j 23 0 [(0,slv entL p0 .no),(14,ai (List.length p0:Int)),(15,ai v15)]
def g19LbgS0(p0:List Ent)(v15:Int):LSt:=⟨[],0,[],0,[]⟩
abbrev K19 (p0:List Ent) (r:Bool) (C:Cf):Prop:=C 19 [] [slv entL p0 .no] (ab r) [] 0
theorem q19:Qf 19 Tryz.f19:=⟨Tryz.func19,by kernel_rfl⟩
theorem k19{p0 r}(h:K19 p0 r Ci):K19 p0 r Ct:=⟨h,⟨⟨tv,dE _⟩,tv⟩,forall_nil,tv,forall_nil⟩
theorem l19Lbg:∀qq:Nat,(∀p0 v15 r,e19Lbg qq p0 v15=some r->(∀j,Dl Tryz.prog 0 (inn (inn (rgt (lft (rgt (rgt (bod Tryz.f19))))))) (g19LbgE0 j p0 v15) (g19LbgS0 p0 v15) (frameQ Tryz.prog 0 (FinQ Tryz.prog 0 Tryz.f19 (ab r) [] 0) [.blk 0,.seq (rgt (rgt (rgt (bod Tryz.f19))))]))):=by
 intro qq
 induction qq with
 |zero=>
  exact fun _ _ _ h=>nn h
 |succ qq ih=>
  intro p0 v15 r h
  rw[e19Lbg]at h
  rcases spl h with⟨h7,h⟩|⟨h7,h⟩
  obtain⟨r8,h9,h⟩:=obind h
  have k:=oB 0 h7 o0
  obtain⟨h10,h⟩:=spT h
  exact fun j=>lH 2 [] [] [] [0,14,15] (oD (dE p0)<|oK 0 [] h10 (c33 h9) k) (ih _ _ _ h)
  obtain rfl:=sj h
  exact fun j=>lF 0 [] (oB 0 h7 o0)
theorem c19{qq p0 r}(h:e19 qq p0=some r):K19 p0 r Ct:=by
 unfold e19 at h
 obtain⟨h1,h⟩:=splF h
 obtain⟨r2,h3,h⟩:=obind h
 obtain⟨r4,h5,h⟩:=obind h
 have k:=oC 0 [] (c32 h3)<|oB 1 h1 o0
 obtain⟨h6,h⟩:=spT h
 exact k19 (tH q19 2 [] [] [] [0,14,15] (oD (dE p0)<|oK 0 [] h6 (c31 h5) k) (l19Lbg _ _ _ _ h))
def e165(qq:Nat)(p0:TreeNode):Option (Bool):=
 e206 qq p0>>=fun r1=>
 some (decide (r1≤128))
abbrev K165 (p0:TreeNode) (r:Bool) (C:Cf):Prop:=C 165 [] [treeNodeA p0] (ab r) [] 0
theorem q165:Qf 165 Tryz.f165:=⟨Tryz.func165,by kernel_rfl⟩
theorem k165{p0 r}(h:K165 p0 r Ci):K165 p0 r Ct:=⟨h,⟨⟨tv,tv,tv,tv,⟨tv,dTreeNode _⟩,tv⟩,tv⟩,forall_nil,tv,forall_nil⟩
theorem c165{qq p0 r}(h:e165 qq p0=some r):K165 p0 r Ct:=by
 unfold e165 at h
 obtain⟨r1,h2,h⟩:=obind h
 obtain rfl:=sj h
 exact k165 (tF q165 1 [] (oC 1 [] (c206 h2) o0))
def e243(qq:Nat)(p0:Int):Option (Int):=
 if decide (p0<1)then
 none
 else
 if decide (p0>10)then
 none
 else
 gidx ([0,0,0,2,2,2,0,0,(-1),0,1]:List Int) p0>>=fun x3=>
 some x3
abbrev K243 (p0 r:Int) (C:Cf):Prop:=C 243 [] [ai p0] (ai r) [] 0
theorem q243:Qf 243 Tryz.f243:=⟨Tryz.func243,by kernel_rfl⟩
theorem k243{p0 r}(h:K243 p0 r Ci):K243 p0 r Ct:=⟨h,⟨tv,tv⟩,forall_nil,tv,forall_nil⟩
theorem c243{qq p0 r}(h:e243 qq p0=some r):K243 p0 r Ct:=by
 unfold e243 at h
 obtain⟨h1,h⟩:=splF h
 have k:=oB 0 h1 o0
 obtain⟨h2,h⟩:=splF h
 obtain⟨x3,h4,h⟩:=obind h
 obtain rfl:=sj h
 exact k243 (tF q243 0 [] (oA 0 (ixArr302 h4 rfl)<|oB 0 h2 k))
def e244(qq:Nat)(p0:TreeNode):Option (Bool):=
 if p0.kind_==1 then
 e51 qq p0.name_>>=fun r2=>
 some r2
 else
 if p0.kind_==6 then
 none
 else
 if p0.kind_==8 then
 none
 else
 if p0.kind_==3 then
 if p0.name_.toList==(⟨#[95]⟩:ByteArray).toList then
 some true
 else
 none
 else
 if p0.kind_==4 then
 none
 else
 some (p0.name_.toList==(⟨#[]⟩:ByteArray).toList)
abbrev K244 (p0:TreeNode) (r:Bool) (C:Cf):Prop:=C 244 [] [treeNodeA p0] (ab r) [] 0
theorem q244:Qf 244 Tryz.f244:=⟨Tryz.func244,by kernel_rfl⟩
theorem k244{p0 r}(h:K244 p0 r Ci):K244 p0 r Ct:=⟨h,⟨⟨tv,tv,tv,tv,⟨tv,dTreeNode _⟩,tv⟩,tv⟩,forall_nil,tv,forall_nil⟩
theorem c244{qq p0 r}(h:e244 qq p0=some r):K244 p0 r Ct:=by
 unfold e244 at h
 rcases spl h with⟨h1,h⟩|⟨h1,h⟩
 obtain⟨r2,h3,h⟩:=obind h
 obtain rfl:=sj h
 exact k244 (tF q244 0 [] (oC 1 [] (c51 h3)<|oB 1 h1 o0))
 have k:=oB 1 h1 o0
 obtain⟨h4,h⟩:=splF h
 have k:=oB 0 h4 k
 obtain⟨h7,h⟩:=splF h
 have k:=oB 0 h7 k
 rcases spl h with⟨h10,h⟩|⟨h10,h⟩
 have k:=oB 0 h10 k
 obtain⟨h11,h⟩:=spT h
 obtain rfl:=sj h
 exact k244 (tF q244 0 [] (oB 1 h11 k))
 have k:=oB 0 h10 k
 obtain⟨h14,h⟩:=splF h
 obtain rfl:=sj h
 exact k244 (tF q244 2 [] (oB 0 h14 k))
def e211(qq:Nat)(p0:TreeNode):Option (Bool):=
 e243 qq p0.kind_>>=fun r1=>
 if r1==(-2)then
 none
 else
 if decide (r1≥0)then
 if (List.length p0.sub_:Int) != r1 then
 none
 else
 if r1==(-1)then
 none
 else
 e244 qq p0>>=fun r13=>
 if r13 then
 if p0.kind_==2 then
 if decide (p0.n_≥0)then
 some (decide (p0.n_≤7))
 else
 none
 else
 some (p0.n_==0)
 else
 none
 else
 none
abbrev K211 (p0:TreeNode) (r:Bool) (C:Cf):Prop:=C 211 [] [treeNodeA p0] (ab r) [] 0
theorem q211:Qf 211 Tryz.f211:=⟨Tryz.func211,by kernel_rfl⟩
theorem k211{p0 r}(h:K211 p0 r Ci):K211 p0 r Ct:=⟨h,⟨⟨tv,tv,tv,tv,⟨tv,dTreeNode _⟩,tv⟩,tv⟩,forall_nil,tv,forall_nil⟩
theorem c211{qq p0 r}(h:e211 qq p0=some r):K211 p0 r Ct:=by
 unfold e211 at h
 obtain⟨r1,h2,h⟩:=obind h
 have k:=oC 1 [] (c243 h2) o0
 obtain⟨h3,h⟩:=splF h
 have k:=oB 0 h3 k
 obtain⟨h4,h⟩:=spT h
 have k:=oB 0 h4 k
 obtain⟨h5,h⟩:=splF h
 have k:=oB 2 h5 k
 obtain⟨h6,h⟩:=splF h
 obtain⟨r13,h14,h⟩:=obind h
 have k:=oB 0 h6 k
 obtain⟨h15,h⟩:=spT h
 have k:=oK 1 [] h15 (c244 h14) k
 rcases spl h with⟨h16,h⟩|⟨h16,h⟩
 have k:=oB 2 h16 k
 obtain⟨h17,h⟩:=spT h
 obtain rfl:=sj h
 exact k211 (tF q211 2 [] (oB 1 h17 k))
 obtain rfl:=sj h
 exact k211 (tF q211 2 [] (oB 2 h16 k))
mutual
def e166:Nat->TreeNode->Bool->Option (Bool)
 |0,_,_=>none
 |qq+1,p0,p1=>
 if p1 then
 none
 else
 e211 qq p0>>=fun r5=>
 if r5 then
 if !(decide (p0.kind_≥6)==false)then
 none
 else
 e166Lbh qq p0 false 0
 else
 none
def e166Lbh:Nat->TreeNode->Bool->Int->Option (Bool)
 |0,_,_,_=>none
 |qq+1,p0,v1,v20=>
 if v1 then
 none
 else
 if decide (v20<(List.length p0.sub_:Int))then
 gidx p0.sub_ v20>>=fun x12=>
 e166 qq x12 false>>=fun r14=>
 if r14 then
 e166Lbh qq p0 false (w64 (v20+1))
 else
 none
 else
 some true
end
def g166LbhE0(j:Nat->Value)(p0:TreeNode)(v1:Bool)(v20:Int):=sp j 34 0 [(1,ab v1),(2,.mp 0 0),(18,slv treeNodeC p0.sub_ .no),(19,ai (List.length p0.sub_:Int)),(20,ai v20)]
def g166LbhS0(p0:TreeNode)(v1:Bool)(v20:Int):LSt:=⟨[(0,.cells [ai p0.kind_,ai p0.at_,at' p0.name_,ai p0.n_,slv treeNodeC p0.sub_ .no])],1,[],0,[]⟩
abbrev K166 (p0:TreeNode) (p1 r:Bool) (C:Cf):Prop:=C 166 [] [treeNodeA p0,ab p1] (ab r) [] 0
theorem q166:Qf 166 Tryz.f166:=⟨Tryz.func166,by kernel_rfl⟩
theorem k166{p0 p1 r}(h:K166 p0 p1 r Ci):K166 p0 p1 r Ct:=⟨h,⟨⟨tv,tv,tv,tv,⟨tv,dTreeNode _⟩,tv⟩,tv,tv⟩,forall_nil,tv,forall_nil⟩
theorem a166_166Lbh:∀qq:Nat,(∀p0 p1 r,e166 qq p0 p1=some r->K166 p0 p1 r Ct)∧(∀p0 v1 v20 r,e166Lbh qq p0 v1 v20=some r->(∀j,Dl Tryz.prog 0 (inn (inn (rgt (lft (rgt (rgt (bod Tryz.f166))))))) (g166LbhE0 j p0 v1 v20) (g166LbhS0 p0 v1 v20) (frameQ Tryz.prog 0 (FinQ Tryz.prog 0 Tryz.f166 (ab r) [] 0) [.blk 0,.seq (rgt (rgt (rgt (bod Tryz.f166))))]))):=by
 intro qq
 induction qq with
 |zero=>
  exact⟨fun _ _ _ h=>nn h,fun _ _ _ _ h=>nn h⟩
 |succ qq ih=>
  obtain⟨ih166,ih166Lbh⟩:=ih
  refine⟨?_,?_⟩
  intro p0 p1 r h
  rw[e166]at h
  cases p1
  replace h:=ifF rfl h
  obtain⟨r5,h6,h⟩:=obind h
  obtain⟨h7,h⟩:=spT h
  have k:=oK 1 [] h7 (c211 h6) o0
  obtain⟨h8,h⟩:=splF h
  exact k166 (tH q166 2 [] [0] [] [1,2,18,19,20] (oD (dTreeNode p0.sub_)<|oD (dTreeNode p0.sub_)<|oB 3 h8 k) (ih166Lbh _ _ _ _ h))
  replace h:=ifT rfl h
  cases h
  intro p0 v1 v20 r h
  rw[e166Lbh]at h
  cases v1
  replace h:=ifF rfl h
  rcases spl h with⟨h11,h⟩|⟨h11,h⟩
  obtain⟨x12,h13,h⟩:=obind h
  obtain⟨r14,h15,h⟩:=obind h
  have k:=oA 0 (ix57 (o:=.no) h13)<|oB 0 h11 o0
  obtain⟨h16,h⟩:=spT h
  exact fun j=>lH 2 [] [0] [] [1,2,18,19,20] (oD (dTreeNode p0.sub_)<|oD (dTreeNode p0.sub_)<|oK 3 [] h16 (ih166 _ _ _ h15) k) (ih166Lbh _ _ _ _ h)
  obtain rfl:=sj h
  exact fun j=>lF 0 [] (oB 0 h11 o0)
  replace h:=ifT rfl h
  cases h
theorem c166{qq p0 p1 r}(h:e166 qq p0 p1=some r):K166 p0 p1 r Ct:=(a166_166Lbh _).1 _ _ _ h
def e116(qq:Nat)(p0:TreeNode):Option (Bool):=
 e165 qq p0>>=fun r1=>
 if r1 then
 e166 qq p0 false>>=fun r4=>
 some r4
 else
 none
abbrev K116 (p0:TreeNode) (r:Bool) (C:Cf):Prop:=C 116 [] [treeNodeA p0] (ab r) [] 0
theorem q116:Qf 116 Tryz.f116:=⟨Tryz.func116,by kernel_rfl⟩
theorem k116{p0 r}(h:K116 p0 r Ci):K116 p0 r Ct:=⟨h,⟨⟨tv,tv,tv,tv,⟨tv,dTreeNode _⟩,tv⟩,tv⟩,forall_nil,tv,forall_nil⟩
theorem c116{qq p0 r}(h:e116 qq p0=some r):K116 p0 r Ct:=by
 unfold e116 at h
 obtain⟨r1,h2,h⟩:=obind h
 obtain⟨h3,h⟩:=spT h
 obtain⟨r4,h5,h⟩:=obind h
 obtain rfl:=sj h
 exact k116 (tF q116 0 [] (oC 1 [] (c166 h5)<|oK 1 [] h3 (c165 h2) o0))
end Go.Proofs.YtedhamlfcienmaaGreat
