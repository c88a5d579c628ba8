/- Parts of the proof that the law returns true: walks of the functions, plain laws. -/
import Derived.Test.YthncfoeaibgmnaaGreatAbB2
set_option linter.unusedVariables false
set_option linter.unusedSimpArgs false
set_option linter.unusedSectionVars false
namespace Go.Ab
open Go Go.RowKit Go.Sort
variable {P:Program}
theorem Calls.args{P:Program}{f:FuncId}{a b:Array Value}{w:World}{R:Ending->World->Prop}(h:a=b)(k:Calls P f b w R):Calls P f a w R:=h▸k
theorem zHs{P:Program}{c:Code}{Q:Exit->Act->World->Prop}{a b:Act}{w:World}(h:a=b)(k:c.wp P Q b w):c.wp P Q a w:=h▸k
theorem gR{α:Type}[Inhabited α](enc:α->Value)(w:World)(b off:Nat)(d:Array α){k:Nat}(hk:k≠b):(putRow enc w b off d).heap[k]? = w.heap[k]?:=by
 simp only[putRow,mapBlock,Array.getElem?_modify]
 rw[if_neg (fun e=>hk e.symm)]
theorem wP.putRow{α:Type}[Inhabited α](enc:α->Value)(w:World)(n b off:Nat)(d:Array α):wP (fun c=>c<w.heap.size∧c≠b) w (putRow enc (Sort.ahead w n) b off d):=
 ⟨rfl,rfl,rfl,by simp,fun k hk=>by rw[gR _ _ _ _ _ hk.2];rfl⟩
theorem wP.grow(w:World)(os:Array Obj)(b:Nat):wP (fun c=>c<w.heap.size∧c≠b) w (grow w os):=
 ⟨rfl,rfl,rfl,by simp[Sort.grow],fun k hk=>by
  show (w.heap++os)[k]? = _
  rw[Array.getElem?_append_left hk.1]⟩
end Go.Ab
namespace Go.Proofs.YthncfoeaibgmnaaGreat
open Go Go.Ab Go.RowKit Go.Sort Go.Proofs Go.Proofs.Tryz
theorem T7{w:World}{b off cap:Nat}{zs:List Int}(hH:Holds (Value.int .i64) w b off zs.toArray)(hb:b<w.heap.size)(hsz:zs.length<4611686018427387904) :
  Calls prog 192 #[.slice (some ⟨b,off,none⟩) zs.length cap] w fun e w'=>e = .returned (.tuple #[])∧∃n os,w'=Sort.grow (putRow (Value.int .i64) (Sort.ahead w n) b off (zs.mergeSort fun x y=>decide (x≤y)).toArray) os:=
 AnyM.slices_Sort_int Tryz.sortI b off cap zs w hH hb hsz
theorem gS{w:World}{b off cap:Nat}{zs:List Int}(hH:Holds (Value.int .i64) w b off zs.toArray)(hsz:zs.length<4611686018427387904)(hcap:zs.length≤cap) :
  Calls prog 193 #[.slice (some ⟨b,off,none⟩) zs.length cap] w fun e w'=>e = .returned (.slice (some ⟨b,off,none⟩) (Go.Lib.compactUpTo zs.toArray zs.toArray.size).length cap)∧∃q,w'=putRow (Value.int .i64) (Sort.ahead w q) b off (Go.Lib.compactUpTo zs.toArray zs.toArray.size++List.replicate (zs.toArray.size-(Go.Lib.compactUpTo zs.toArray zs.toArray.size).length) 0).toArray:=by
 have:=AnyE.slices_Compact Tryz.cmpI (Value.int .i64) (fun _=>rfl) (EqlAt.intD _ _ .i64) (NeqAt.intD _ _ .i64) 0 Tryz.zeroValue3 b off cap zs.toArray w hH (by simp;omega) (by simpa using hcap)
 simpa[show Tryz.cmpI_ren.f 43=193 from rfl]using this
theorem T8{w:World}{u:Value}{M:World->Prop}{N:World->Value->Prop}(hs:Calls prog 192 #[u] w fun e w1=>e = .returned (.tuple #[])∧M w1)(hc:∀w1,M w1->Calls prog 193 #[u] w1 fun e w2=>∃v,e = .returned v∧N w2 v) :
  Calls prog 119 #[u] w fun e w'=>∃v,e = .returned v∧N w' v:=by
 refine calls_of_wp func119 (c:=wO f119) (by kernel_rfl) ?_
 have k0:g4 (wO f119)=1:=by kernel_rfl
 have k1:lP (uK (wO f119))=true:=by kernel_rfl
 have k2:List.range (xX (uK (wO f119))).size=[0]:=by kernel_rfl
 have k3:zFn (xX (uK (wO f119)))[0]? = some (some 2,.const (.slice none 0 0)):=by kernel_rfl
 have k4:g4 (xH (wO f119))=1:=by kernel_rfl
 have k5:lP (uK (xH (wO f119)))=true:=by kernel_rfl
 have k6:List.range (xX (uK (xH (wO f119)))).size=[0,1]:=by kernel_rfl
 have k7:zFn (xX (uK (xH (wO f119))))[0]? = some (some 3,.tmp 0):=by kernel_rfl
 have k8:C6 (xX (uK (xH (wO f119))))[1]? = some (some 4,192,#[.tmp 3]):=by kernel_rfl
 have k9:g4 (xH (xH (wO f119)))=1:=by kernel_rfl
 have k10:lP (uK (xH (xH (wO f119))))=true:=by kernel_rfl
 have k11:List.range (xX (uK (xH (xH (wO f119))))).size=[0,1,2]:=by kernel_rfl
 have k12:zFn (xX (uK (xH (xH (wO f119)))))[0]? = some (some 5,.tmp 0):=by kernel_rfl
 have k13:C6 (xX (uK (xH (xH (wO f119)))))[1]? = some (some 6,193,#[.tmp 5]):=by kernel_rfl
 have k14:zFn (xX (uK (xH (xH (wO f119)))))[2]? = some (some 2,.tmp 6):=by kernel_rfl
 have k15:zNH (xH (xH (xH (wO f119))))=true:=by kernel_rfl
 have k16:(f192.name == "runtime.NumGoroutine")=false:=by kernel_rfl
 have k17:f192.body.isNone=false:=by kernel_rfl
 have k18:(f193.name == "runtime.NumGoroutine")=false:=by kernel_rfl
 have k19:f193.body.isNone=false:=by kernel_rfl
 have k20:f119.ntmps=7:=by kernel_rfl
 have k21:f119.results = #[.tmp 2]:=by kernel_rfl
 rw[k20]
 revert k0 k1 k2 k3 k4 k5 k6 k7 k8 k9 k10 k11 k12 k13 k14 k15
 generalize wO f119=B
 intro k0 k1 k2 k3 k4 k5 k6 k7 k8 k9 k10 k11 k12 k13 k14 k15
 refine X7 k0 ?_
 refine iJ k1 k2 ?_
 refine gO k3 ?_
 unfold wpOps
 unfold Exit.then
 dsimp only
 refine X7 k4 ?_
 refine iJ k5 k6 ?_
 refine gO k7 ?_
 refine C7 k8 func192 k16 k17 ?_
 refine Calls.args (b:=#[u]) (by simp[Act.eval,Act.put]) (Calls.mono hs ?_)
 rintro e w1 ⟨rfl,hM⟩
 refine⟨_,rfl,?_⟩
 unfold wpOps
 unfold Exit.then
 dsimp only
 refine zHs (b:=⟨#[u,undef,.slice none 0 0,u,.tuple #[],undef,undef],[]⟩) (by simp[Act.eval,Act.put,Array.replicate_succ]) ?_
 refine X7 k9 ?_
 refine iJ k10 k11 ?_
 refine gO k12 ?_
 refine C7 k13 func193 k18 k19 ?_
 refine Calls.args (b:=#[u]) (by simp[Act.eval,Act.put]) (Calls.mono (hc w1 hM) ?_)
 rintro e w2 ⟨v,rfl,hN⟩
 refine⟨_,rfl,?_⟩
 refine gO k14 ?_
 unfold wpOps
 unfold Exit.then
 dsimp only
 refine zHs (b:=⟨#[u,undef,v,u,.tuple #[],u,v],[]⟩) (by simp[Act.eval,Act.put]) ?_
 refine zKg k15 ?_
 exact⟨rfl,v,by simp[results,k21],v,rfl,hN⟩
theorem zFk{w:World}{b off cap:Nat}{zs:List Int}(hH:Holds (Value.int .i64) w b off zs.toArray)(hb:b<w.heap.size)(hsz:zs.length<4611686018427387904)(hcap:zs.length≤cap) :
  Calls prog 119 #[.slice (some ⟨b,off,none⟩) zs.length cap] w fun e w'=>e = .returned (.slice (some ⟨b,off,none⟩) (vS zs).length cap)∧wP (fun c=>c<w.heap.size∧c≠b) w w' ∧
   ∀i (h:i<(vS zs).length),w'.cell? ⟨b,off+i,none⟩=some (.int .i64 (vS zs)[i]):=by
 have hl:(zs.mergeSort fun x y=>decide (x≤y)).length=zs.length:=List.length_mergeSort _
 refine(T8 (T7 (cap:=cap) hH hb hsz) (N:=fun w' v=>v = .slice (some ⟨b,off,none⟩) (vS zs).length cap∧wP (fun c=>c<w.heap.size∧c≠b) w w' ∧
   ∀i (h:i<(vS zs).length),w'.cell? ⟨b,off+i,none⟩=some (.int .i64 (vS zs)[i])) ?_).mono (fun e w' ⟨v,h1,h2,h3,h4⟩=>⟨by rw[h1,h2],h3,h4⟩)
 rintro w1 ⟨n,os,rfl⟩
 have hH1:Holds (Value.int .i64) (Sort.grow (putRow (Value.int .i64) (Sort.ahead w n) b off (zs.mergeSort fun x y=>decide (x≤y)).toArray) os) b off (zs.mergeSort fun x y=>decide (x≤y)).toArray:=
  holds_grow _ _ _ _ _ _ (by simpa using hb) (holds_putRow _ _ _ _ zs.toArray _ hH (by simp[hl]))
 have hc:=gS (cap:=cap) hH1 (by omega) (by omega)
 rw[hl]at hc
 refine Calls.mono hc ?_
 rintro e w2 ⟨rfl,q,rfl⟩
 refine⟨_,rfl,?_⟩
 rw[zFl]
 have hrl:=a8 zs
 refine⟨rfl,(wP.trans (wP.trans (wP.putRow _ w n b off _) ((wP.grow _ os b).mono fun k hk=>⟨by simpa using hk.1,hk.2⟩)) ((wP.putRow _ _ q b off _).mono fun k hk=>⟨?_,hk.2⟩)),fun i h=>?_⟩
 ·show k<((putRow _ _ _ _ _).heap++os).size
  simp;have:=hk.1;omega
 ·rw[cell?_putRow (Value.int .i64) _ b off (zs.mergeSort fun x y=>decide (x≤y)).toArray _ (holds_ahead _ _ _ _ _ _ hH1) (by simp[hl];omega) i (by simp;omega)]
  simp[List.getElem?_append_left h,h]
theorem zNI:wZ prog 193 [] [.sl [] 0 .no] (.sl [] 0 .no) [] 0:=
 wZ.toFin wC mixed func193 (by kernel_rfl) 3000 [.no,.no] [] [] [] false (by kernel_rfl) (yR.cons (sD (es:=[]) trivial) yR.nil) (by decide)
def atW(w:World):Gh:=⟨fun _=>none,fun _=>none,fun _ _=>False,w,fun c=>c<w.heap.size,fun _=>False⟩
theorem zDV(w:World):yS (atW w) (xB (wU 0) (gA [])) w:=by
 refine⟨fun _=>⟨fun _=>.inr rfl,fun _=>⟨rfl,id⟩,fun e=>e.elim⟩,⟨0,fun _ _=>rfl⟩,fun _ _ _ h=>?_,fun _ _ _ h=>?_,fun _ _ h=>False.elim h,fun _ _=>rfl,fun _ h=>?_,fun _ _ _ _ _ _ _ h=>?_,wP.refl _ _,fun _ h=>h⟩
 ·cases h
 ·cases h
 ·cases h
 ·cases h
theorem zAz(w:World):nE (0:Nat) (atW w):=⟨fun _ _=>⟨rfl,id⟩,fun _=>rfl,fun _ _ h=>False.elim h,trivial⟩
theorem V.none{G G':Gh}{w w':World}{v:Value}(h:V G w (.sl [] 0 .no) v):V G' w' (.sl [] 0 .no) v:=by
 simp only[V]at h ⊢
 obtain⟨cap,h1,⟨_,_,h2,h3,_⟩|⟨b,off,h2,_,_⟩⟩:=h
 ·exact⟨cap,h1,.inl ⟨trivial,trivial,h2,h3,trivial⟩⟩
 ·exact⟨cap,h1,.inr ⟨b,off,h2,by simp only[VC],trivial⟩⟩
theorem zFj{w:World}{u:Value}{p:Option Addr}{cap:Nat}(hu:u = .slice p 0 cap){G:Gh}(hV:V G w (.sl [] 0 .no) u) :
  Calls prog 119 #[u] w fun e w'=>∃v,e = .returned v∧(wP (fun c=>c<w.heap.size) w w'∧∀G',V G' w' (.sl [] 0 .no) v):=by
 refine T8 (M:=fun w1=>w1=w) (by subst hu;exact AnyM.slices_Sort_int_none Tryz.sortI p cap w) ?_
 rintro w1 rfl
 refine(zNI (atW w1) w1 #[u] (zAz w1) (zDV w1) ?_).mono ?_
 ·simp only[VL];exact⟨V.none hV,trivial⟩
 ·rintro e w2 ⟨v,G',s',rfl,hE,hR,hv,_⟩
  refine⟨v,rfl,?_,fun G'=>V.none hv⟩
  have:=hR.below
  rw[hE.F,hE.w0]at this
  exact this
theorem VL.ints{G:Gh}{w:World}:∀l:List Int,VL G w (zF zS l) (l.map (Value.int .i64))
 | []=>by simp[zF,VL]
 |x::l=>by simp only[zF,List.flatMap_cons,List.map_cons];simp only[zS,List.cons_append,List.nil_append,VL,V];exact⟨trivial,VL.ints l⟩
theorem VL.ints_eq{G:Gh}{w:World}:∀(l:List Int) (us:List Value),VL G w (zF zS l) us->us=l.map (Value.int .i64)
 | [],[],_=>rfl
 | [],_::_,h=>by simp only[zF,List.flatMap_nil,VL]at h
 |x::l,[],h=>by simp only[zF,List.flatMap_cons,zS,List.cons_append,VL]at h
 |x::l,u::us,h=>by
  simp only[zF,List.flatMap_cons,zS,List.cons_append,List.nil_append,VL,V]at h
  rw[h.1,VL.ints_eq l us h.2];rfl
theorem T9{G:Gh}{w:World}{s:xK}{k:Nat}{l:List Int}{u:Value}(hR:yS G (xB (wU 0) s) w)(ho:s.own.any (Nat.beq k)=true)(hsz:l.length<4611686018427387904)(hu:V G w (.sl (zF zS l) l.length (.st k 1)) u) :
  Calls prog 119 #[u] w fun e w'=>∃(v:Value) (b:Nat) (S:Nat->Nat->Prop),e = .returned v∧¬G.F b∧(∀i,G.ρ i≠some b)∧wP (fun c=>c<w.heap.size∧c≠b) w w' ∧
   (∀c o,S c o->c=b∧∃x,w'.cell? ⟨c,o,none⟩=some x)∧∀G',(∀c o,S c o->G'.L c o)->V G' w' (.sl (zF zS (vS l)) (vS l).length .no) v:=by
 have hempty:l=[]->∀p cap,u = .slice p 0 cap->V G w (.sl [] 0 .no) u->Calls prog 119 #[u] w fun e w'=>∃(v:Value) (b:Nat) (S:Nat->Nat->Prop),e = .returned v∧¬G.F b∧(∀i,G.ρ i≠some b)∧wP (fun c=>c<w.heap.size∧c≠b) w w' ∧
   (∀c o,S c o->c=b∧∃x,w'.cell? ⟨c,o,none⟩=some x)∧∀G',(∀c o,S c o->G'.L c o)->V G' w' (.sl (zF zS (vS l)) (vS l).length .no) v:=by
  rintro rfl p cap hp hV
  refine(zFj hp hV).mono ?_
  rintro e w' ⟨v,rfl,hK,hv⟩
  exact⟨v,w.heap.size,fun _ _=>False,rfl,fun h=>Nat.lt_irrefl _ (hR.base _ h),fun i hi=>Nat.lt_irrefl _ (hR.ρ_lt hi),hK.mono fun k hk=>hk.1,fun _ _ h=>h.elim,fun G' _=>hv G'⟩
 have hu0:=hu
 simp only[V]at hu
 obtain⟨cap,hcap,⟨he,hn,hc0,hu',_⟩|⟨b,off,rfl,hC,hq,hO⟩⟩:=hu
 ·have hl:l=[]:=List.length_eq_zero_iff.1 hn
  subst hl
  exact hempty rfl (mQ u) 0 hu' (by simp only[V];exact⟨0,Nat.le_refl _,.inl ⟨trivial,trivial,rfl,hu',trivial⟩⟩)
 ·rcases hO with⟨hn,_⟩|⟨hm,hF,hτ⟩
  ·have hl:l=[]:=List.length_eq_zero_iff.1 hn
   subst hl
   exact hempty rfl _ cap rfl (by simp only[V];exact⟨cap,Nat.zero_le _,.inr ⟨b,off,rfl,by simp only[VC],trivial⟩⟩)
  ·obtain⟨b',f,t,q1,q2⟩:=hR.own k (by rw[vL];exact ho)
   rw[hτ]at q1
   cases q1
   rcases q2 with q2|⟨_,q3,_,vs,T,q5,q6⟩
   ·omega
   obtain⟨us,h1,h2⟩:=VC.cells _ _ _ hC
   have hus:=VL.ints_eq l us h1
   subst hus
   have hH:Holds (Value.int .i64) w b off l.toArray:=by
    intro j hj
    have hj':j<l.length:=by simpa using hj
    refine⟨?_,by simp[World.frozen?,q5]⟩
    rw[h2 j (by simpa using hj')]
    simp[hj']
   have hb:b<w.heap.size:=(Array.getElem?_eq_some_iff.1 q5).1
   refine(zFk hH hb hsz hcap).mono ?_
   rintro e w' ⟨rfl,hK,hcell⟩
   refine⟨_,b,fun c o=>c=b∧off≤o∧o<off+(vS l).length,rfl,hF,q3,hK,?_,fun G' hS=>?_⟩
   ·rintro c o ⟨rfl,h1,h2⟩
    exact⟨rfl,.int .i64 ((vS l)[o-off]'(by omega)),by have:=hcell (o-off) (by omega);rwa[show off+(o-off)=o by omega]at this⟩
   ·simp only[V]
    refine⟨cap,Nat.le_trans (a8 l) hcap,.inr ⟨b,off,rfl,VC.of_cells _ _ b off (VL.ints (vS l)) (fun i hi=>hS _ _ ⟨rfl,by omega,?_⟩) (fun i hi=>?_),trivial⟩⟩
    ·have:i<(vS l).length:=by simpa using hi
     omega
    ·rw[hcell i (by simpa using hi)];simp
end Go.Proofs.YthncfoeaibgmnaaGreat
namespace Go.Ab
open Go Go.RowKit Go.Sort
structure L3 where
 a:Value
 b:Value
 c:Value
 ha:a.oneCell'=true
 hb:b.oneCell'=true
 hc:c.oneCell'=true
instance:Inhabited L3:=⟨⟨.int .i64 0,.int .i64 0,.int .i64 0,rfl,rfl,rfl⟩⟩
def L3.vs(x:L3):List Value:=[x.a,x.b,x.c]
def c3(x:L3):List AV:=[.val x.a,.val x.b,.val x.c]
theorem zCK:wG c3 3:=⟨fun _=>rfl,fun _=>⟨trivial,trivial,trivial,trivial⟩,fun x=>by simp[c3,AV.one,x.ha,x.hb,x.hc]⟩
def tC(l:List L3):List Value:=l.flatMap L3.vs
theorem zDW:∀l:List L3,zF c3 l=(tC l).map .val
 | []=>rfl
 |x::l=>by
  have:=zDW l
  simp only[zF,tC]at this
  simp only[zF,tC,List.flatMap_cons,List.map_append,this];rfl
theorem D0:∀l:List L3,(tC l).length=l.length*3
 | []=>rfl
 |x::l=>by
  have:=D0 l
  simp only[tC]at this
  simp only[tC,List.flatMap_cons,List.length_append,this,L3.vs,List.length_cons,List.length_nil];omega
theorem zAy:∀(l:List L3) (i c:Nat) (hi:i<l.length) (hc:c<3),(tC l)[i*3+c]? = some ((l[i].vs)[c]'(by simpa[L3.vs]using hc))
 |x::l,0,c,_,hc=>by
  simp only[tC,List.flatMap_cons,Nat.zero_mul,Nat.zero_add,List.getElem_cons_zero]
  rw[List.getElem?_append_left (by simpa[L3.vs]using hc),List.getElem?_eq_getElem]
 |x::l,i+1,c,hi,hc=>by
  have:=zAy l i c (by simpa using hi) hc
  simp only[tC]at this
  simp only[tC,List.flatMap_cons,List.getElem_cons_succ]
  rw[List.getElem?_append_right (by simp[L3.vs];omega)]
  rw[←this];congr 1;simp[L3.vs];omega
theorem zDX(l:List L3)(t:Nat)(ht:t<l.length*3):(tC l)[t]? = some (L3.vs l.toArray[t / 3]!)[t % 3]!:=by
 have h1:t / 3<l.length:=by omega
 have h2:t % 3<3:=Nat.mod_lt _ (by omega)
 have:=zAy l (t / 3) (t % 3) h1 h2
 rw[show t / 3*3+t % 3=t by omega]at this
 rw[this]
 have e:l.toArray[t / 3]! = l[t / 3]:=by simp[h1]
 rw[e]
 have h3:t % 3<l[t / 3].vs.length:=by simpa[L3.vs]using h2
 simp[h3]
theorem zCL{w:World}{b off:Nat}{l:List L3}(hcell:∀i (h:i<(tC l).length),w.cell? ⟨b,off+i,none⟩=some (tC l)[i])(hfr:∀o,w.frozen? ⟨b,o,none⟩=false):HoldsK L3.vs 3 w b off l.toArray:=by
 intro t ht
 have ht':t<l.length*3:=by simpa using ht
 refine⟨?_,hfr _⟩
 have hlt:t<(tC l).length:=by rw[D0];exact ht'
 rw[hcell t hlt,get_flatK _ _ _ _ (by simpa using ht')]
 have:=zDX l t ht'
 rw[List.getElem?_eq_getElem hlt]at this
 exact this
theorem zCM{w:World}{b off:Nat}{l:List L3}(h:HoldsK L3.vs 3 w b off l.toArray):∀i (h:i<(tC l).length),w.cell? ⟨b,off+i,none⟩=some (tC l)[i]:=by
 intro t ht
 have ht':t<l.length*3:=by rw[D0]at ht;exact ht
 rw[(h t (by simpa using ht')).1,get_flatK _ _ _ _ (by simpa using ht')]
 have:=zDX l t ht'
 rw[List.getElem?_eq_getElem ht]at this
 exact this.symm
end Go.Ab
namespace Go.Proofs.YthncfoeaibgmnaaGreat
open Go Go.Ab Go.RowKit Go.Sort Go.Proofs Go.Proofs.Tryz
theorem zHr{w:World}{b off cap:Nat}{l:List L3}(hH:HoldsK L3.vs 3 w b off l.toArray)(hsz:l.length≤9223372036854775807) :
  Calls prog 253 #[.slice (some ⟨b,off,none⟩) l.length cap] w fun e w'=>e = .returned (.tuple #[])∧wP (fun c=>c<w.heap.size∧c≠b) w w'∧∀i (h:i<(tC l.reverse).length),w'.cell? ⟨b,off+i,none⟩=some (tC l.reverse)[i]:=by
 have h1:∀x:L3,∀v∈x.vs,v.oneCell'=true:=by
  intro x v hv
  simp only[L3.vs,List.mem_cons,List.not_mem_nil,or_false]at hv
  rcases hv with rfl|rfl|rfl
  ·exact x.ha
  ·exact x.hb
  ·exact x.hc
 have:=AnyQ.slices_Reverse Tryz.revT 3 Tryz.isAgg33 Tryz.sizeOf33 L3.vs (fun _=>rfl) h1 b off cap l.toArray w hH (by simpa using hsz)
 refine Calls.mono (this:Calls prog 253 _ w _) ?_
 rintro e w' ⟨rfl,n,rfl⟩
 refine⟨rfl,wP.putRow _ w n b off _,?_⟩
 have:=holdsK_putRowK L3.vs 3 (Sort.ahead w n) b off l.toArray l.toArray.reverse hH (by simp)
 refine zCM ?_
 simpa using this
theorem V.st3{G:Gh}{w:World}{k n:Nat}{es:List AV}{u u':Value}(hn:n≠0)(h:V G w (.sl es n (.st k 3)) u)(h':V G w (.sl es n (.st k 3)) u')(_hes:es.length=n*3):u=u':=by
 simp only[V]at h h'
 obtain⟨cap,hc,⟨_,h0,_⟩|⟨b,off,rfl,_,_,ho⟩⟩:=h
 ·exact(hn h0).elim
 obtain⟨cap',hc',⟨_,h0,_⟩|⟨b',off',rfl,_,_,ho'⟩⟩:=h'
 ·exact(hn h0).elim
 rcases ho with ho|⟨_,_,ho⟩
 ·exact(hn ho.1).elim
 rcases ho' with ho'|⟨_,_,ho'⟩
 ·exact(hn ho'.1).elim
 rw[ho]at ho'
 simp only[Option.some.injEq,Prod.mk.injEq]at ho'
 obtain⟨rfl,e1,e2⟩:=ho'
 have:off=off':=by omega
 subst this
 have:cap=cap':=by omega
 subst this
 rfl
theorem zAx{G:Gh}{w:World}{s:xK}{k:Nat}{l:List L3}{u:Value}(hR:yS G (xB (wU 0) s) w)(ho:s.own.any (Nat.beq k)=true)(hsz:l.length≤9223372036854775807)(hu:V G w (.sl (zF c3 l) l.length (.st k 3)) u) :
  Calls prog 253 #[u] w fun e w'=>∃(v:Value) (b:Nat) (S:Nat->Nat->Prop),e = .returned v∧¬G.F b∧(∀i,G.ρ i≠some b)∧wP (fun c=>c<w.heap.size∧c≠b) w w' ∧
   (∀c o,S c o->c=b∧∃x,w'.cell? ⟨c,o,none⟩=some x)∧v = .tuple #[]∧∀G',(∀c o,S c o->G'.L c o)->∀es,VL G' w' es (tC l.reverse)->∀u',V G w (.sl (zF c3 l) l.length (.st k 3)) u'->V G' w' (.sl es l.length .no) u':=by
 by_cases hl:l=[]
 ·subst hl
  have hp:∃p cap,u = .slice p 0 cap:=by
   simp only[V]at hu
   obtain⟨cap,_,⟨_,_,_,h,_⟩|⟨b,off,h,_⟩⟩:=hu
   ·exact⟨_,_,h⟩
   ·exact⟨_,_,h⟩
  obtain⟨p,cap,rfl⟩:=hp
  refine Calls.mono (AnyQ.slices_Reverse_empty Tryz.revT p cap w:Calls prog 253 _ w _) ?_
  rintro e w' ⟨rfl,rfl⟩
  refine⟨_,w'.heap.size,fun _ _=>False,rfl,fun h=>Nat.lt_irrefl _ (hR.base _ h),fun i hi=>Nat.lt_irrefl _ (hR.ρ_lt hi),wP.refl _ _,fun _ _ h=>h.elim,rfl,fun G' _ es hes u' hu'=>?_⟩
  have hes':es=[]:=by
   have:=VL.length _ _ hes
   exact List.length_eq_zero_iff.1 this.symm
  subst hes'
  refine V.none (G:=G) (w:=w') ?_
  simp only[V]at hu' ⊢
  obtain⟨cap',h1,⟨_,_,h2,h3,_⟩|⟨b,off,h2,_,_⟩⟩:=hu'
  ·exact⟨cap',h1,.inl ⟨trivial,trivial,h2,h3,trivial⟩⟩
  ·exact⟨cap',h1,.inr ⟨b,off,h2,by simp only[VC],trivial⟩⟩
 ·have hn:l.length≠0:=fun h=>hl (List.length_eq_zero_iff.1 h)
  have hlen:(zF c3 l).length=l.length*3:=wQ zCK.len l
  have huniq:∀u',V G w (.sl (zF c3 l) l.length (.st k 3)) u'->u=u':=fun u' h=>V.st3 hn hu h hlen
  simp only[V]at hu
  obtain⟨cap,hcap,⟨_,h0,_⟩|⟨b,off,rfl,hC,hq,hO⟩⟩:=hu
  ·exact(hn h0).elim
  rcases hO with⟨h0,_⟩|⟨hm,hF,hτ⟩
  ·exact(hn h0).elim
  obtain⟨b',f,t,q1,q2⟩:=hR.own k (by rw[vL];exact ho)
  rw[hτ]at q1
  cases q1
  rcases q2 with q2|⟨_,q3,_,vs,T,q5,q6⟩
  ·rw[hlen]at q2
   have:=Nat.mul_le_mul_right 3 hcap
   omega
  obtain⟨us,h1,h2⟩:=VC.cells _ _ _ hC
  rw[zDW]at h1
  have hus:=VL.litEq _ us h1
  subst hus
  have hH:HoldsK L3.vs 3 w b off l.toArray:=zCL h2 (fun o=>by simp[World.frozen?,q5])
  refine(zHr (cap:=cap) hH hsz).mono ?_
  rintro e w' ⟨rfl,hK,hcell⟩
  refine⟨_,b,fun c o=>c=b∧off≤o∧o<off+(tC l.reverse).length,rfl,hF,q3,hK,?_,rfl,fun G' hS es hes u' hu'=>?_⟩
  ·rintro c o ⟨rfl,h1,h2⟩
   exact⟨rfl,(tC l.reverse)[o-off]'(by omega),by have:=hcell (o-off) (by omega);rwa[show off+(o-off)=o by omega]at this⟩
  ·rw[←huniq u' hu']
   simp only[V]
   exact⟨cap,hcap,.inr ⟨b,off,rfl,VC.of_cells es _ b off hes (fun i hi=>hS _ _ ⟨rfl,by omega,by omega⟩) hcell,trivial⟩⟩
end Go.Proofs.YthncfoeaibgmnaaGreat
namespace Go.Ab
open Go Go.RowKit
def qO:List (ByteArray×Int)->Nat->List MapEntry
 | [],_=>[]
 |p::m,c=>{ key:=.string p.1,val:=.int .i64 p.2,born:=c } :: qO m (c+1)
def lQ(m:List (ByteArray×Int)):yW:=.obj (.map ⟨qO m 0⟩ m.length)
def cB:List (ByteArray×Int)->ByteArray->Int
 | [],_=>0
 |p::m,k=>if (k==p.1)=true then p.2 else cB m k
def cC:List (ByteArray×Int)->ByteArray->Int->List (ByteArray×Int)
 | [],k,v=>[(k,v)]
 |p::m,k,v=>if (k==p.1)=true then(k,v)::m else p::cC m k v
def Q9:List (ByteArray×Int)->ByteArray->Nat->Option (Nat×Value)
 | [],_,_=>none
 |p::m,k,i=>if (k==p.1)=true then some (i,.int .i64 p.2)else Q9 m k (i+1)
theorem nM(k:ByteArray):∀(m:List (ByteArray×Int)) (c i:Nat),Instr.findNow .string (.string k) (qO m c) i=some (Q9 m k i)
 | [],_,_=>rfl
 |p::m,c,i=>by
  simp only[qO,Instr.findNow,Instr.sameNow,Q9]
  cases hb:(k==p.1)with
  |true=>rfl
  |false=>simp only[Bool.false_eq_true,if_false];exact nM k m (c+1) (i+1)
theorem zAw(k:ByteArray):∀(m:List (ByteArray×Int)) (i:Nat),zEU (Q9 m k i) (.int .i64 0)=ai (cB m k)
 | [],_=>rfl
 |p::m,i=>by
  simp only[Q9,cB]
  cases hb:(k==p.1)with
  |true=>rfl
  |false=>simp only[Bool.false_eq_true,if_false];exact zAw k m (i+1)
theorem zAv(k:ByteArray)(v:Int):∀(m:List (ByteArray×Int)) (c i:Nat),
    (match Q9 m k i with
      |some (j,_)=>i≤j∧(qO m c).modify (j-i) (fun e=>{ e with key:=.string k,val:=.int .i64 v })=qO (cC m k v) c∧(cC m k v).length=m.length
      |none=>qO m c++[{ key:=.string k,val:=.int .i64 v,born:=c+m.length }]=qO (cC m k v) c∧(cC m k v).length=m.length+1)
  | [],c,i=>by simp[Q9,cC,qO]
  |p::m,c,i=>by
    simp only[Q9,cC]
    cases hb:(k==p.1)with
    |true=>simp[qO]
    |false=>
      simp only[Bool.false_eq_true,if_false]
      have ih:=zAv k v m (c+1) (i+1)
      cases hm:Q9 m k (i+1)with
      |none=>
        rw[hm]at ih
        simp only at ih ⊢
        refine⟨?_,by simp[ih.2]⟩
        simp only[qO,List.cons_append,List.length_cons]
        rw[←ih.1,show c+(m.length+1)=c+1+m.length by omega]
      |some q=>
        obtain⟨j,u⟩:=q
        rw[hm]at ih
        simp only at ih ⊢
        refine⟨by omega,?_,by simp[ih.2.2]⟩
        simp only[qO]
        rw[show j-i=(j-(i+1))+1 by omega,List.modify_succ_cons,ih.2.1]
variable {P:Program} {t kt et:TypeId} {ie:TypeInfo}
theorem zSm(ht:P.underlying t=some (.map kt et))(hk:P.underlying kt=some .string)(he:P.info? et=some ie)(hz:ie.zero=some (.int .i64 0))(m:List (ByteArray×Int))(k:ByteArray) :
  Ob.ok P (.lk t (lQ m) (at' k) false (ai (cB m k))):=by
 intro ev i s hl
 unfold qK
 simp only[ht,at',hk,he,lQ]at hl ⊢
 simp only[hl,hz,nM,uJ,cond_true,Bool.false_eq_true,if_false,zAw]
theorem zSl(ht:P.underlying t=some (.map kt et))(hk:P.underlying kt=some .string)(m:List (ByteArray×Int))(k:ByteArray)(v:Int) :
  Ob.ok P (.mu t (lQ m) (at' k) (ai v) (lQ (cC m k v))):=by
 intro ev i s hl
 unfold uT
 simp only[ht,at',ai,hk,lQ]at hl ⊢
 simp only[hl,nM,uJ,cond_true]
 have h:=zAv k v m 0 0
 cases hm:Q9 m k 0 with
 |none=>
  rw[hm]at h
  simp only[Nat.zero_add]at h ⊢
  rw[h.2,←h.1]
  simp
 |some q=>
  obtain⟨j,u⟩:=q
  rw[hm]at h
  simp only[Nat.sub_zero]at h ⊢
  have e:(⟨qO m 0⟩:Array MapEntry).modify j (fun e=>{ e with key:=.string k,val:=.int .i64 v })=⟨qO (cC m k v) 0⟩:=by
   apply Array.ext'
   rw[Array.toList_modify]
   exact h.2.1
  rw[h.2.2,e]
def zAu(s:ByteArray)(i:Int):Option Int:=if 0≤i then(match s[i.toNat]? with|some b=>some (b.toNat:Int)|none=>none)else none
theorem zHq{k:IntKind}(ht:P.underlying t=some .string){s:ByteArray}{i x:Int}(h:zAu s i=some x):sL P t (at' s) (.val (.int k i))=some (.val (.int .u8 x)):=by
 unfold zAu at h
 unfold sL
 simp only[ht,at']
 split at h
 ·rename_i h0
  rw[if_pos h0]
  split at h
  ·rename_i b hb
   cases h
   rw[hb]
  ·cases h
 ·cases h
theorem zAt:∀l:List U8,A7 (zF gK l)=some l
 | []=>rfl
 |x::l=>by
  have:=zAt l
  unfold zF at this ⊢
  rw[List.flatMap_cons]
  show (A7 (l.flatMap gK)).map (x :: ·)=_
  rw[this];rfl
theorem zHp{d e:TypeId}(hs:P.underlying t=some (.slice e))(hd:P.underlying d=some .string)(he:P.underlying e=some (.int .u8))(l:List U8){o:uI}:pU P t d (.sl (zF gK l) l.length o)=some (at' (mS l)):=by
 unfold pU
 simp only[hs,hd,he,zAt]
 rfl
structure Sub (G G':Gh) (p:Nat->Prop):Prop where
 F:G'.F=G.F
 ρ:∀i b,p i->G.ρ i=some b->G'.ρ i=some b
 τ:∀k q,G.τ k=some q->G'.τ k=some q
 L:∀b o,G.L b o->G'.L b o
 N:∀i,p i->G.N i->G'.N i
mutual
theorem V.less{G G':Gh}{w:World}{p:Nat->Prop}(h:Sub G G' p):∀(a:AV) (u:Value),a.fine p->V G w a u->V G' w a u
 | .val v,u,_,hv=>by simpa only[V]using hv
 | .agg cs,u,hi,hv=>by
  simp only[V,AV.fine]at hi hv ⊢
  obtain⟨vs,rfl,hl⟩:=hv
  exact⟨vs,rfl,VL.less h cs vs hi hl⟩
 | .tup cs,u,hi,hv=>by
  simp only[V,AV.fine]at hi hv ⊢
  obtain⟨vs,rfl,hl⟩:=hv
  exact⟨vs,rfl,VL.less h cs vs hi hl⟩
 | .sl es n o,u,hi,hv=>by
  simp only[V,AV.fine]at hi hv ⊢
  obtain⟨cap,hc,hh⟩:=hv
  refine⟨cap,hc,?_⟩
  rcases hh with⟨rfl,h2,h3,h4,h5⟩|⟨b,off,hu,hcells,ho⟩
  ·exact .inl ⟨rfl,h2,h3,h4,h5.mono h.τ⟩
  ·exact .inr ⟨b,off,hu,VC.data h.L es b off hi hcells,ho.mono h.F h.τ⟩
 | .ip es,u,hi,hv=>by
  simp only[V,AV.fine]at hi hv ⊢
  obtain⟨b,off,hu,hcells⟩:=hv
  exact⟨b,off,hu,VC.data h.L es b off hi hcells⟩
 | .mp i off,u,hi,hv=>by
  simp only[V,AV.fine]at hi hv ⊢
  obtain⟨b,hb,hu⟩:=hv
  exact⟨b,h.ρ _ _ hi hb,hu⟩
 | .ms i off n c sz,u,hi,hv=>by
  simp only[V,AV.fine]at hi hv ⊢
  rcases hv with⟨b,cap,hb,hu⟩|⟨hn,hN,hu⟩
  ·exact .inl ⟨b,cap,h.ρ _ _ hi hb,hu⟩
  ·exact .inr ⟨hn,h.N _ hi hN,hu⟩
 | .obj i,u,hi,hv=>by
  simp only[V,AV.fine]at hi hv ⊢
  obtain⟨b,hb,hu⟩:=hv
  exact⟨b,h.ρ _ _ hi hb,hu⟩
 | .clo g fs cs,u,hi,hv=>by
  simp only[V,AV.fine]at hi hv ⊢
  obtain⟨l,r',hu,h1,h2⟩:=hv
  exact⟨l,r',hu,VL.less h fs l hi.1 h1,VL.less h cs r' hi.2 h2⟩
theorem VL.less{G G':Gh}{w:World}{p:Nat->Prop}(h:Sub G G' p):∀(as0:List AV) (us:List Value),AV.fineL p as0->VL G w as0 us->VL G' w as0 us
 | [],[],_,_=>by simp only[VL]
 |a::as0,u::us,hi,hv=>by
  simp only[VL,AV.fineL]at hi hv ⊢
  exact⟨V.less h a u hi.1 hv.1,VL.less h as0 us hi.2 hv.2⟩
 | [],_::_,_,hv=>by simp only[VL]at hv
 |_::_,[],_,hv=>by simp only[VL]at hv
end
mutual
def AV.fz(m:Nat)(cs:List AV):AV->AV
 | .val v=>.val v
 | .agg l=>.agg (AV.fzL m cs l)
 | .tup l=>.tup (AV.fzL m cs l)
 | .sl es n o=>.sl es n o
 | .ip es=>.ip es
 | .mp i off=>.mp i off
 | .ms i off n c sz=>bif Nat.beq i m then .sl (cs.drop off) n .no else .ms i off n c sz
 | .obj i=>.obj i
 | .clo g a b=>.clo g a b
def AV.fzL(m:Nat)(cs:List AV):List AV->List AV
 | []=>[]
 |a::l=>AV.fz m cs a::AV.fzL m cs l
end
mutual
def AV.fzOk(m:Nat):AV->Prop
 | .val _=>True
 | .agg l=>AV.fzOkL m l
 | .tup l=>AV.fzOkL m l
 | .sl es _ _=>AV.DataL es
 | .ip es=>AV.DataL es
 | .mp i _=>i<m
 | .ms i off _ _ _=>(i=m∧off=0)∨i<m
 | .obj i=>i<m
 | .clo _ a b=>AV.fineL (fun i=>i<m) a∧AV.fineL (fun i=>i<m) b
def AV.fzOkL(m:Nat):List AV->Prop
 | []=>True
 |a::l=>AV.fzOk m a∧AV.fzOkL m l
end
theorem D1:∀(l:List AV) (n:Nat),AV.DataL l->AV.DataL (l.drop n)
 |l,0,h=>by simpa using h
 | [],_+1,_=>trivial
 |_::l,n+1,h=>by simpa using D1 l n h.2
mutual
theorem AV.fz_fine{m:Nat}{cs:List AV}(hc:AV.DataL cs):∀a:AV,a.fzOk m->(a.fz m cs).fine (fun i=>i<m)
 | .val _,_=>trivial
 | .agg l,h=>AV.fzL_fine hc l h
 | .tup l,h=>AV.fzL_fine hc l h
 | .sl _ _ _,h=>h
 | .ip _,h=>h
 | .mp _ _,h=>h
 | .ms i off n c sz,h=>by
  simp only[AV.fz]
  cases hb:Nat.beq i m with
  |true=>exact D1 _ _ hc
  |false=>
   rcases h with⟨rfl,_⟩|h
   ·simp at hb
   ·exact h
 | .obj _,h=>h
 | .clo _ _ _,h=>h
theorem AV.fzL_fine{m:Nat}{cs:List AV}(hc:AV.DataL cs):∀l:List AV,AV.fzOkL m l->AV.fineL (fun i=>i<m) (AV.fzL m cs l)
 | [],_=>trivial
 |a::l,h=>⟨AV.fz_fine hc a h.1,AV.fzL_fine hc l h.2⟩
end
mutual
theorem V.fz{G G':Gh}{w:World}{m:Nat}{cs:List AV}(h:Sub G G' (fun i=>i<m))(hm:∀b,G.ρ m=some b->VC G' w cs b 0)(hc:G.N m->cs=[]):∀(a:AV) (u:Value),a.fzOk m->V G w a u->V G' w (a.fz m cs) u
 | .val v,u,_,hv=>by simpa only[AV.fz,V]using hv
 | .agg l,u,hi,hv=>by
  simp only[V,AV.fzOk,AV.fz]at hi hv ⊢
  obtain⟨vs,rfl,hl⟩:=hv
  exact⟨vs,rfl,VL.fz h hm hc l vs hi hl⟩
 | .tup l,u,hi,hv=>by
  simp only[V,AV.fzOk,AV.fz]at hi hv ⊢
  obtain⟨vs,rfl,hl⟩:=hv
  exact⟨vs,rfl,VL.fz h hm hc l vs hi hl⟩
 | .sl es n o,u,hi,hv=>V.less h (.sl es n o) u hi hv
 | .ip es,u,hi,hv=>V.less h (.ip es) u hi hv
 | .mp i off,u,hi,hv=>V.less h (.mp i off) u hi hv
 | .ms i off n c sz,u,hi,hv=>by
  simp only[AV.fz]
  cases hb:Nat.beq i m with
  |false=>
   rcases hi with⟨rfl,_⟩|hi
   ·simp at hb
   ·exact V.less h (.ms i off n c sz) u hi hv
  |true=>
   have:=Nat.eq_of_beq_eq_true hb
   subst this
   simp only[V,cond_true]at hv ⊢
   rcases hi with⟨_,e0⟩|hi
   ·subst e0
    rcases hv with⟨b,cap,hb',hn,o,rfl,hro⟩|⟨⟨e1,_⟩,hN,p,rfl⟩
    ·rcases hro with⟨eo,_⟩|⟨_,h0⟩
     ·subst eo
      exact⟨cap,Nat.le_trans hn.1 hn.2,.inr ⟨b,_,rfl,by simpa using hm b hb',trivial⟩⟩
     ·exact absurd h0 (Nat.lt_irrefl _)
    ·rw[hc hN]
     subst e1
     exact⟨0,Nat.le_refl 0,.inl ⟨rfl,(by first|rfl|trivial),(by first|rfl|trivial),rfl,trivial⟩⟩
   ·exact absurd hi (Nat.lt_irrefl _)
 | .obj i,u,hi,hv=>V.less h (.obj i) u hi hv
 | .clo g a b,u,hi,hv=>V.less h (.clo g a b) u hi hv
theorem VL.fz{G G':Gh}{w:World}{m:Nat}{cs:List AV}(h:Sub G G' (fun i=>i<m))(hm:∀b,G.ρ m=some b->VC G' w cs b 0)(hc:G.N m->cs=[]):∀(as0:List AV) (us:List Value),AV.fzOkL m as0->VL G w as0 us->VL G' w (AV.fzL m cs as0) us
 | [],[],_,_=>by simp only[AV.fzL,VL]
 |a::as0,u::us,hi,hv=>by
  simp only[VL,AV.fzOkL,AV.fzL]at hi hv ⊢
  exact⟨V.fz h hm hc a u hi.1 hv.1,VL.fz h hm hc as0 us hi.2 hv.2⟩
 | [],_::_,_,hv=>by simp only[VL]at hv
 |_::_,[],_,hv=>by simp only[VL]at hv
end
def zAs(m:Nat):List (Nat×yW)->List (Nat×yW)
 | []=>[]
 |p::l=>bif Nat.blt p.1 m then p::zAs m l else zAs m l
theorem jC{m:Nat}:∀(l:List (Nat×yW)) (i:Nat),look (zAs m l) i=if i<m then look l i else none
 | [],i=>by simp[zAs,look]
 |p::l,i=>by
  simp only[zAs]
  cases hb:Nat.blt p.1 m with
  |true=>
   have hb':p.1<m:=Nat.le_of_ble_eq_true hb
   simp only[cond_true,look,jC l i]
   cases he:Nat.beq i p.1 with
   |true=>have:=Nat.eq_of_beq_eq_true he;simp only[cond_true];rw[if_pos (by omega)]
   |false=>simp only[cond_false]
  |false=>
   have hb':¬p.1<m:=by intro h;rw[Nat.blt,Nat.ble_eq_true_of_le h]at hb;cases hb
   simp only[cond_false,look,jC l i]
   cases he:Nat.beq i p.1 with
   |true=>have:=Nat.eq_of_beq_eq_true he;rw[if_neg (by omega),if_neg (by omega)]
   |false=>simp only[cond_false]
def yW.alive:yW->Bool
 | .dead=>false
 |_=>true
theorem wZ.freeze{P:Program}{f:FuncId}{H0 H1:List yW}{args cs:List AV}{res:AV}{nst:Nat}(h:wZ P f H0 args res (H1++[.row cs]) nst)(hle:H0.length≤H1.length)(hH1:∀X∈H1,X.fine (fun i=>i<H1.length))(hcs:AV.DataL cs)(hr:res.fzOk H1.length)(hnd:H1.all yW.alive=true) :
  wZ P f H0 args (res.fz H1.length cs) H1 nst:=by
 intro G0 W cargs hB hR hv
 refine(h G0 W cargs hB hR hv).mono ?_
 rintro e W' ⟨u,G',s',rfl,hE,hR',hu,hb,ho⟩
 have hm:look s'.H H1.length=some (.row cs):=hb H1.length _ (by simp)
 have hm':(xB (wU 0) s').H H1.length=some (.row cs):=by rw[xO];exact hm
 have real:∀b,G'.ρ H1.length=some b->¬G'.F b∧∃us:List Value,us.length=cs.length∧VL G' W' cs us∧∀i (hi:i<us.length),W'.cell? ⟨b,0+i,none⟩=some us[i]:=by
  intro b hρ
  obtain⟨hF,vs,T,hh,us,rest,hus,hvl⟩:=hR'.blk H1.length b _ hρ hm'
  refine⟨hF,us,VL.length _ _ hvl,hvl,fun i hi=>?_⟩
  have:vs[i]? = some us[i]:=by
   have h1:vs.toList[i]? = some us[i]:=by rw[hus,List.getElem?_append_left hi,List.getElem?_eq_getElem hi]
   simpa using h1
  rw[Nat.zero_add]
  simp[World.cell?,hh,this]
 have hNn:G'.N H1.length->cs=[]:=fun e=>yW.void_row (hR'.Nvoid e hm')
 let G'':Gh:={ G' with ρ:=fun i=>if i<H1.length then G'.ρ i else none,L:=fun c o=>G'.L c o∨(G'.ρ H1.length=some c∧o<cs.length),N:=fun i=>i<H1.length∧G'.N i }
 have hS:Sub G' G'' (fun i=>i<H1.length):=⟨rfl,fun i b hi e=>by show (if i<H1.length then G'.ρ i else none)=_;rw[if_pos hi];exact e,fun _ _ e=>e,fun _ _ e=>.inl e,fun _ hi e=>⟨hi,e⟩⟩
 have hC:∀b,G'.ρ H1.length=some b->VC G'' W' cs b 0:=fun b hρ=>by
  obtain⟨_,us,hlen,hvl,hcell⟩:=real b hρ
  exact VC.of_cells cs us b 0 (VL.data hS.L cs us hcs hvl) (fun i hi=>.inr ⟨hρ,by omega⟩) hcell
 have hσ:∀i,(xB (wU 0) { s' with H:=zAs H1.length s'.H }).H i=if i<H1.length then look s'.H i else none:=fun i=>by rw[xO];exact jC _ _
 have hσ':∀i,(xB (wU 0) s').H i=look s'.H i:=fun i=>xO _ _
 refine⟨u,G'',{ s' with H:=zAs H1.length s'.H },rfl,⟨fun i c hc=>?_,hE.τ,fun c o e=>.inl (hE.L c o e),hE.cell,hE.w0,hE.F,fun c o e=>?_,hE.room,fun i e=>?_⟩,⟨fun i=>?_,⟨H1.length,fun i hi=>?_⟩,fun i j c hi hj=>?_,fun i c X hi hX=>?_,fun c o hL=>?_,hR'.τns,fun k hk=>?_,hR'.ownd,hR'.below,hR'.base⟩,V.fz hS hC hNn _ _ hr hu,fun i X hX=>?_,ho⟩
 ·have hi:i<H0.length:=Nat.lt_of_not_le fun hge=>by rw[(hB.ρ i hge).1]at hc;cases hc
  show (if i<H1.length then G'.ρ i else none)=_
  rw[if_pos (by omega)];exact hE.ρ i c hc
 ·rcases e with e|⟨e,_⟩
  ·exact hE.newL c o e
  ·exact .inr (by rw[←hE.F];exact(real c e).1)
 ·have hi:i<H0.length:=Nat.lt_of_not_le fun hge=>(hB.ρ i hge).2 e
  exact⟨by omega,hE.N i e⟩
 ·rw[hσ]
  show pT (if i<H1.length then G'.ρ i else none) (i<H1.length∧G'.N i) _
  have hd:=hR'.dom i
  rw[hσ']at hd
  split
  ·rename_i hi
   exact⟨fun q=>(hd.1 q).imp (fun r=>⟨hi,r⟩) id,fun q=>⟨(hd.2.1 q).1,fun r=>(hd.2.1 q).2 r.2⟩,fun r=>hd.2.2 r.2⟩
  ·rename_i hi
   exact⟨fun _=>.inr rfl,fun _=>⟨rfl,fun r=>hi r.1⟩,fun r=>absurd r.1 hi⟩
 ·rw[hσ,if_neg (by omega)]
 ·have hi':(if i<H1.length then G'.ρ i else none)=some c:=hi
  have hj':(if j<H1.length then G'.ρ j else none)=some c:=hj
  split at hi'
  ·split at hj'
   ·rename_i h1 h2
    rw[hσ,hσ,if_pos h1,if_pos h2,←hσ',←hσ']
    exact hR'.inj i j c hi' hj'
   ·cases hj'
  ·cases hi'
 ·have hi':(if i<H1.length then G'.ρ i else none)=some c:=hi
  split at hi'
  ·rename_i hlt
   rw[hσ,if_pos hlt]at hX
   obtain⟨q1,q2⟩:=hR'.blk i c X hi' (by rw[hσ'];exact hX)
   refine⟨q1,?_⟩
   have hget:(H1++[.row cs])[i]? = some H1[i]:=by rw[List.getElem?_append_left hlt,List.getElem?_eq_getElem hlt]
   have:=hb i _ hget
   rw[this]at hX;cases hX
   have hf:=hH1 _ (List.getElem_mem hlt)
   cases hY:H1[i]with
   |cells ds=>
    rw[hY]at q2 hf
    obtain⟨vs',T',q3,q4⟩:=q2
    exact⟨vs',T',q3,q4.imp fun us=>VL.less hS _ us hf⟩
   |obj o=>rw[hY]at q2;exact q2
   |row ds=>
    rw[hY]at q2 hf
    obtain⟨vs',T',q3,q4⟩:=q2
    exact⟨vs',T',q3,q4.imp fun us=>VL.data hS.L _ us hf⟩
   |dead=>rw[hY]at q2;exact q2
  ·cases hi'
 ·rcases hL with hL|⟨hρ,hlt⟩
  ·obtain⟨q1,q2⟩:=hR'.live c o hL
   refine⟨q1,fun i hi=>?_⟩
   have hi':(if i<H1.length then G'.ρ i else none)=some c:=hi
   split at hi'
   ·exact q2 i hi'
   ·cases hi'
  ·obtain⟨_,us,hlen,hvl,hcell⟩:=real c hρ
   refine⟨⟨us[o]'(by omega),?_⟩,fun i hi=>?_⟩
   ·have:=hcell o (by omega)
    rwa[Nat.zero_add]at this
   ·have hi':(if i<H1.length then G'.ρ i else none)=some c:=hi
    split at hi'
    ·rename_i hlt'
     have hi2:look s'.H i=some H1[i]:=hb i _ (by rw[List.getElem?_append_left hlt',List.getElem?_eq_getElem hlt'])
     rcases hR'.inj i H1.length c hi' hρ with this|this|this
     ·omega
     ·rw[hσ',hi2]at this
      have h3:=List.all_eq_true.1 hnd _ (List.getElem_mem hlt')
      rw[Option.some.inj this]at h3
      cases h3
     ·rw[hσ',hm]at this;cases this
    ·cases hi'
 ·obtain⟨c,f1,t,q1,q2|⟨q2,q3,q4,q5⟩⟩:=hR'.own k hk
  ·exact⟨c,f1,t,q1,.inl q2⟩
  ·refine⟨c,f1,t,q1,.inr ⟨q2,fun i hi=>?_,fun o h1 h2 hL=>?_,q5⟩⟩
   ·have hi':(if i<H1.length then G'.ρ i else none)=some c:=hi
    split at hi'
    ·exact q3 i hi'
    ·cases hi'
   ·rcases hL with hL|⟨hρ,_⟩
    ·exact q4 o h1 h2 hL
    ·exact q3 _ hρ
 ·have hlt:=(List.getElem?_eq_some_iff.1 hX).1
  show look (zAs H1.length s'.H) i=some X
  rw[jC,if_pos hlt]
  exact hb i X (by rw[List.getElem?_append_left hlt];exact hX)
theorem CT.freeze{P:Program}{f:FuncId}{H0 H1:List yW}{args cs:List AV}{res res':AV}{nst:Nat}(h:CT P f H0 args res (H1++[.row cs]) nst)(hle:H0.length≤H1.length)(hH1:∀X∈H1,X.fine (fun i=>i<H1.length))(hcs:AV.DataL cs)(hr:res.fzOk H1.length)(hnd:H1.all yW.alive=true)(e:res.fz H1.length cs=res') :
  CT P f H0 args res' H1 nst:=by
 subst e
 exact⟨h.tri.freeze hle hH1 hcs hr hnd,h.args,h.H0,AV.fz_fine hcs _ hr,hH1⟩
theorem eN{G0 G':Gh}{W W':World}{s':xK}{u:Value}(sz:Nat)(hB:nE (0:Nat) G0)(hE:wK G0 W G' W')(hR':yS G' (xB (wU 0) s') W')(hu:∃cap b o,(cap=0)∧(u = .slice (mQ u) 0 0∨u = .slice (some ⟨b,o,none⟩) 0 cap)) :
  ∃u' G'' s'',Ending.returned u = .returned u'∧wK G0 W G'' W'∧yS G'' (xB (wU 0) s'') W'∧V G'' W' (.sl [] 0 (.st 0 sz)) u'∧(∀i X,([]:List yW)[i]? = some X->look s''.H i=some X)∧∀k,k<1->s''.own.any (Nat.beq k)=true:=by
 let G'':Gh:={ G' with ρ:=fun _=>none,τ:=fun k=>if k=0 then some (0,1,0)else none,N:=fun _=>False }
 refine⟨u,G'',{ s' with H:=[],own:=[0],ns:=1 },rfl,⟨fun i c hc=>?_,fun k r hk=>?_,hE.L,hE.cell,hE.w0,hE.F,hE.newL,fun i c m hc=>?_,fun i e=>absurd e (hB.ρ i (Nat.zero_le _)).2⟩,⟨fun i=>?_,⟨0,fun i _=>?_⟩,fun i j c hi=>?_,fun i c X hi=>?_,fun c o hL=>?_,fun k hk=>?_,fun k hk=>?_,fun k k' _ _ _ _ _ hk hk'=>?_,hR'.below,hR'.base⟩,?_,fun i X hX=>?_,fun k hk=>?_⟩
 ·rw[(hB.ρ i (Nat.zero_le _)).1]at hc;cases hc
 ·rw[hB.τ k]at hk;cases hk
 ·rw[(hB.ρ i (Nat.zero_le _)).1]at hc;cases hc
 ·rw[xO];exact⟨fun _=>.inr rfl,fun _=>⟨rfl,id⟩,fun e=>e.elim⟩
 ·rw[xO];rfl
 ·cases hi
 ·cases hi
 ·exact⟨(hR'.live c o hL).1,fun i hi=>by cases hi⟩
 ·have hk1:1≤k:=hk
  show (if k=0 then some (0,1,0)else none)=none
  rw[if_neg (by omega)]
 ·rw[vL]at hk
  have e:k=0:=by simpa using hk
  subst e
  exact⟨0,1,0,rfl,.inl (by decide)⟩
 ·rw[vL]at hk hk'
  have e:k=0:=by simpa using hk
  have e':k'=0:=by simpa using hk'
  intros;omega
 ·obtain⟨cap,b,o,rfl,hu|rfl⟩:=hu
  ·simp only[V]
   exact⟨0,Nat.le_refl 0,.inl ⟨(by trivial),(by trivial),(by trivial),hu,_,rfl⟩⟩
  ·simp only[V]
   exact⟨0,Nat.le_refl 0,.inl ⟨(by trivial),(by trivial),(by trivial),(by first|rfl|trivial),_,rfl⟩⟩
 ·cases hX
 ·have:k=0:=by omega
  subst this;rfl
theorem wZ.freezeS{P:Program}{f:FuncId}{args cs:List AV}{n c sz:Nat}(h:wZ P f [] args (.ms 0 0 n c sz) [.row cs] 0)(hcs:AV.DataL cs)(hl:cs.length=n*sz) :
  wZ P f [] args (.sl cs n (.st 0 sz)) [] 1:=by
 intro G0 W cargs hB hR hv
 refine(h G0 W cargs hB hR hv).mono ?_
 rintro e W' ⟨u,G',s',rfl,hE,hR',hu,hb,-⟩
 have hm:look s'.H 0=some (.row cs):=hb 0 _ (by simp)
 have hm':(xB (wU 0) s').H 0=some (.row cs):=by rw[xO];exact hm
 simp only[V]at hu
 rcases hu with⟨b,cap,hρ,hn,o,rfl,hro⟩|⟨⟨e0,_⟩,hN,p,rfl⟩
 rotate_left
 ·have hcs0:=yW.void_row (hR'.Nvoid hN hm')
  subst e0
  try subst hcs0
  exact eN sz hB hE hR' ⟨0,0,0,rfl,.inl rfl⟩
 obtain⟨hF,vs,T,hh,us,rest,hus,hvl⟩:=hR'.blk 0 b _ hρ hm'
 have hlen:=VL.length _ _ hvl
 rcases hro with⟨rfl,vs2,T2,hh2,hroom⟩|⟨_,h0⟩
 rotate_left
 ·exact absurd h0 (Nat.lt_irrefl _)
 rw[hh]at hh2;cases hh2
 let G'':Gh:={ G' with ρ:=fun _=>none,τ:=fun k=>if k=0 then some (b,0+cs.length,0+cap*sz)else none,L:=fun c o=>G'.L c o∨(c=b∧o<cs.length),N:=fun _=>False }
 have hcell:∀i (hi:i<us.length),W'.cell? ⟨b,0+i,none⟩=some us[i]:=by
  intro i hi
  have:vs[i]? = some us[i]:=by
   have h1:vs.toList[i]? = some us[i]:=by rw[hus,List.getElem?_append_left hi,List.getElem?_eq_getElem hi]
   simpa using h1
  rw[Nat.zero_add]
  simp[World.cell?,hh,this]
 have hC:VC G'' W' cs b 0:=VC.of_cells cs us b 0 (VL.data (G':=G'') (fun c o e=>Or.inl e) cs us hcs hvl) (fun i hi=>.inr ⟨rfl,by omega⟩) hcell
 refine⟨_,G'',{ s' with H:=[],own:=[0],ns:=1 },rfl,⟨fun i c hc=>?_,fun k r hk=>?_,fun c o e=>.inl (hE.L c o e),hE.cell,hE.w0,hE.F,fun c o e=>?_,fun i c m hc=>?_,fun i e=>absurd e (hB.ρ i (Nat.zero_le _)).2⟩,⟨fun i=>?_,⟨0,fun i _=>?_⟩,fun i j c hi=>?_,fun i c X hi=>?_,fun c o hL=>?_,fun k hk=>?_,fun k hk=>?_,fun k k' _ _ _ _ _ hk hk'=>?_,hR'.below,hR'.base⟩,?_,fun i X hX=>?_,fun k hk=>?_⟩
 ·rw[(hB.ρ i (Nat.zero_le _)).1]at hc;cases hc
 ·rw[hB.τ k]at hk;cases hk
 ·rcases e with e|⟨rfl,_⟩
  ·exact hE.newL c o e
  ·exact .inr (by rw[←hE.F];exact hF)
 ·rw[(hB.ρ i (Nat.zero_le _)).1]at hc;cases hc
 ·rw[xO];exact⟨fun _=>.inr rfl,fun _=>⟨rfl,id⟩,fun e=>e.elim⟩
 ·rw[xO];rfl
 ·cases hi
 ·cases hi
 ·rcases hL with hL|⟨rfl,hlt⟩
  ·exact⟨(hR'.live c o hL).1,fun i hi=>by cases hi⟩
  ·refine⟨⟨us[o]'(by omega),?_⟩,fun i hi=>by cases hi⟩
   have:=hcell o (by omega)
   rwa[Nat.zero_add]at this
 ·have hk1:1≤k:=hk
  show (if k=0 then some (b,0+cs.length,0+cap*sz)else none)=none
  rw[if_neg (by omega)]
 ·rw[vL]at hk
  have e:k=0:=by simpa using hk
  subst e
  refine⟨b,0+cs.length,0+cap*sz,rfl,.inr ⟨hF,fun i hi=>(by cases hi),fun o h1 h2 hL=>?_,vs,T,hh,hroom⟩⟩
  rcases hL with hL|⟨_,h3⟩
  ·exact(hR'.live b o hL).2 0 hρ
  ·omega
 ·rw[vL]at hk hk'
  have e:k=0:=by simpa using hk
  have e':k'=0:=by simpa using hk'
  intros;omega
 ·simp only[V]
  exact⟨cap,Nat.le_trans hn.1 hn.2,.inr ⟨b,0,rfl,hC,⟨_,rfl⟩,.inr ⟨hl,hF,rfl⟩⟩⟩
 ·cases hX
 ·have:k=0:=by omega
  subst this;rfl
theorem wZ.freezeZ{P:Program}{f:FuncId}{args cs:List AV}{n c sz:Nat}(h:wZ P f [] args (.ms 0 0 n c sz) [.row cs] 0)(hn0:n=0) :
  wZ P f [] args (.sl [] 0 (.st 0 sz)) [] 1:=by
 intro G0 W cargs hB hR hv
 refine(h G0 W cargs hB hR hv).mono ?_
 rintro e W' ⟨u,G',s',rfl,hE,hR',hu,hb,-⟩
 have hm:look s'.H 0=some (.row cs):=hb 0 _ (by simp)
 have hm':(xB (wU 0) s').H 0=some (.row cs):=by rw[xO];exact hm
 simp only[V]at hu
 rcases hu with⟨b,cap,hρ,hn,o,rfl,hro⟩|⟨⟨e0,_⟩,hN,p,rfl⟩
 rotate_left
 ·have hcs0:=yW.void_row (hR'.Nvoid hN hm')
  subst e0
  try subst hcs0
  exact eN sz hB hE hR' ⟨0,0,0,rfl,.inl rfl⟩
 obtain⟨hF,vs,T,hh,us,rest,hus,hvl⟩:=hR'.blk 0 b _ hρ hm'
 have hlen:=VL.length _ _ hvl
 rcases hro with⟨rfl,vs2,T2,hh2,hroom⟩|⟨_,h0⟩
 rotate_left
 ·exact absurd h0 (Nat.lt_irrefl _)
 rw[hh]at hh2;cases hh2
 let G'':Gh:={ G' with ρ:=fun _=>none,τ:=fun k=>if k=0 then some (b,0+0,0+cap*sz)else none,N:=fun _=>False }
 refine⟨_,G'',{ s' with H:=[],own:=[0],ns:=1 },rfl,⟨fun i c hc=>?_,fun k r hk=>?_,hE.L,hE.cell,hE.w0,hE.F,hE.newL,fun i c m hc=>?_,fun i e=>absurd e (hB.ρ i (Nat.zero_le _)).2⟩,⟨fun i=>?_,⟨0,fun i _=>?_⟩,fun i j c hi=>?_,fun i c X hi=>?_,fun c o hL=>?_,fun k hk=>?_,fun k hk=>?_,fun k k' _ _ _ _ _ hk hk'=>?_,hR'.below,hR'.base⟩,?_,fun i X hX=>?_,fun k hk=>?_⟩
 ·rw[(hB.ρ i (Nat.zero_le _)).1]at hc;cases hc
 ·rw[hB.τ k]at hk;cases hk
 ·rw[(hB.ρ i (Nat.zero_le _)).1]at hc;cases hc
 ·rw[xO];exact⟨fun _=>.inr rfl,fun _=>⟨rfl,id⟩,fun e=>e.elim⟩
 ·rw[xO];rfl
 ·cases hi
 ·cases hi
 ·exact⟨(hR'.live c o hL).1,fun i hi=>by cases hi⟩
 ·have hk1:1≤k:=hk
  show (if k=0 then some (b,0+0,0+cap*sz)else none)=none
  rw[if_neg (by omega)]
 ·rw[vL]at hk
  have e:k=0:=by simpa using hk
  subst e
  exact⟨b,0+0,0+cap*sz,rfl,.inr ⟨hF,fun i hi=>(by cases hi),fun o h1 h2 hL=>(hR'.live b o hL).2 0 hρ,vs,T,hh,hroom⟩⟩
 ·rw[vL]at hk hk'
  have e:k=0:=by simpa using hk
  have e':k'=0:=by simpa using hk'
  intros;omega
 ·simp only[V]
  subst hn0
  exact⟨cap,Nat.zero_le _,.inr ⟨b,0,rfl,by simp only[VC],⟨_,rfl⟩,.inr ⟨by simp,hF,rfl⟩⟩⟩
 ·cases hX
 ·have:k=0:=by omega
  subst this;rfl
theorem wZ.stampNil{P:Program}{f:FuncId}{args:List AV}{sz:Nat}(h:wZ P f [] args (.sl [] 0 .full) [] 0):wZ P f [] args (.sl [] 0 (.st 0 sz)) [] 1:=by
 intro G0 W cargs hB hR hv
 refine(h G0 W cargs hB hR hv).mono ?_
 rintro e W' ⟨u,G',s',rfl,hE,hR',hu,hb,-⟩
 refine eN sz hB hE hR' ?_
 simp only[V]at hu
 obtain⟨cap,hc,⟨_,_,h3,h4,_⟩|⟨b,off,rfl,_,ho⟩⟩:=hu
 ·exact⟨0,0,0,rfl,.inl h4⟩
 ·exact⟨cap,b,off,ho,.inr rfl⟩
theorem CT.freezeS{P:Program}{f:FuncId}{args cs:List AV}{n c sz:Nat}(h:CT P f [] args (.ms 0 0 n c sz) [.row cs] 0)(hcs:AV.DataL cs)(hl:cs.length=n*sz):CT P f [] args (.sl cs n (.st 0 sz)) [] 1:=
 ⟨h.tri.freezeS hcs hl,h.args,h.H0,hcs,fun _ h=>nomatch h⟩
theorem CT.freezeZ{P:Program}{f:FuncId}{args cs:List AV}{n c sz:Nat}(h:CT P f [] args (.ms 0 0 n c sz) [.row cs] 0)(hn0:n=0):CT P f [] args (.sl [] 0 (.st 0 sz)) [] 1:=
 ⟨h.tri.freezeZ hn0,h.args,h.H0,trivial,fun _ h=>nomatch h⟩
theorem CT.stampNil{P:Program}{f:FuncId}{args:List AV}{sz:Nat}(h:CT P f [] args (.sl [] 0 .full) [] 0):CT P f [] args (.sl [] 0 (.st 0 sz)) [] 1:=
 ⟨h.tri.stampNil,h.args,h.H0,trivial,fun _ h=>nomatch h⟩
def gmk{α:Type}(B:Int)(d:α)(n:Int):Option (List α):=if 0≤n∧n*B≤140737488355328 then some (List.replicate n.toNat d)else none
def uR(n:Nat)(i:Int):Option Nat:=if 0≤i∧i<n then some i.toNat else none
def zCN{α:Type}(l:List α)(k:Nat)(x:α):Option (List α):=if k<l.length then some (l.set k x)else none
def gfz{α:Type}(n:Nat)(l:List α):Option (List α):=if l.length=n then some l else none
theorem tD{α:Type}{n:Nat}{l r:List α}(h:gfz n l=some r):r=l∧n=r.length:=by
 unfold gfz at h
 split at h
 ·rename_i e;cases h;exact⟨rfl,e.symm⟩
 ·cases h
theorem U0{f:Nat->AV}{s:Nat}(hs:0<s):∀n:Nat,(List.range (n*s)).map (fun j=>f (j % s))=(List.replicate n ((List.range s).map f)).flatten
 |0=>by simp
 |n+1=>by
  rw[Nat.add_mul,Nat.one_mul,List.range_add,List.map_append,U0 hs n,List.replicate_succ',List.flatten_append]
  congr 1
  simp only[List.map_map,List.flatten_cons,List.flatten_nil,List.append_nil]
  apply List.map_congr_left
  intro j hj
  have:j<s:=List.mem_range.1 hj
  simp[Function.comp,Nat.add_comm (n*s) j,Nat.mod_eq_of_lt this]
theorem zAr{α:Type}{c:α->List AV}{d:α}:∀n:Nat,(List.replicate n (c d)).flatten=zF c (List.replicate n d)
 |0=>rfl
 |n+1=>by simp only[List.replicate_succ,List.flatten_cons,zF,List.flatMap_cons];rw[zAr n];rfl
theorem zNJ{P:Program}{α:Type}{c:α->List AV}{sz:Nat}{t e:TypeId}{ie:TypeInfo}{z:Value}(ht:P.underlying t=some (.slice e))(hi:P.info? e=some ie)(hs:ie.size=sz)(hz:ie.zero=some z)(hzs:z.cells.size=sz)(h1:1≤sz){B:Nat}(hb:ie.bytes=B)(hB:1≤B){d:α}
  (hd:(List.range sz).map (fun j=>(ofV 8 (z.cells.getD j undef)).frz)=c d) {n:Int} {l:List α} (h:gmk (B:Int) d n=some l):Ob.ok P (.mk (sY P t (ai n) (ai n)) (zF c l) l.length):=by
 unfold gmk at h
 split at h
 ·rename_i hc
  cases h
  show sY P t (ai n) (ai n)=some (zF c (List.replicate n.toNat d),(List.replicate n.toNat d).length)
  unfold sY
  simp only[ht,hi,hz]
  have hb':(B:Int)≥1:=by omega
  have hn:n≤n*B:=by
   have:=Int.mul_le_mul_of_nonneg_left hb' hc.1
   simpa using this
  rw[if_pos ⟨trivial,hc.1,by rw[hb];exact hc.2,by omega,by rw[hzs,hs],by rw[hs];exact h1⟩]
  simp only[List.length_replicate,Option.some.injEq,Prod.mk.injEq,and_true]
  rw[hs,hzs,U0 h1 (f:=fun j=>(ofV 8 (z.cells.getD j undef)).frz),hd,zAr]
 ·cases h
theorem lR{P:Program}{t e:TypeId}{ie:TypeInfo}(ht:P.underlying t=some (.slice e))(hi:P.info? e=some ie){sz:Nat}(hs:ie.size=sz){b n k c z:Nat}{i:Int}(h:uR n i=some k) :
  yX P t (.ms b 0 n c z) (ai i)=some (.mp b (k*sz)):=by
 unfold uR at h
 split at h
 ·rename_i hc
  cases h
  unfold yX
  simp only[ht,hi]
  rw[if_pos hc,hs,Nat.zero_add]
 ·cases h
theorem zDZ{α:Type}{c:α->List AV}{sz:Nat}(hc:wG c sz){l:List α}{k:Nat}{x:α}(h:yG l (k:Int)=some x):(zF c l).drop (k*sz)=c x++zF c (l.drop (k+1)):=by
 obtain⟨_,_,h2⟩:=jB h
 exact cL hc.len (by simpa using h2)
theorem zHo{α:Type}{c:α->List AV}{sz:Nat}(hc:wG c sz){l:List α}{k off:Nat}{x:α}(h:yG l (k:Int)=some x):(zF c l).drop (k*sz+off)=(c x++zF c (l.drop (k+1))).drop off:=by
 rw[←List.drop_drop,zDZ hc h]
theorem zAq{α:Type}{c:α->List AV}{sz:Nat}(hc:∀x,(c x).length=sz):∀(l:List α) (k:Nat) (x:α),k<l.length->splice (zF c l) (k*sz) (c x)=zF c (l.set k x)
 | [],k,x,h=>by simp at h
 |y::l,0,x,h=>by
  simp only[splice,Nat.zero_mul,List.take_zero,List.nil_append,Nat.zero_add,zF,List.flatMap_cons,List.set_cons_zero]
  rw[List.drop_left' (by rw[hc,hc])]
 |y::l,k+1,x,h=>by
  have ih:=zAq hc l k x (by simpa using h)
  simp only[splice,zF]at ih
  simp only[splice,zF,List.flatMap_cons,List.set_cons_succ]
  rw[←ih]
  have e:(k+1)*sz=sz+k*sz:=by rw[Nat.add_mul,Nat.one_mul,Nat.add_comm]
  rw[e,List.take_append,List.take_of_length_le (by rw[hc];omega),hc,Nat.add_sub_cancel_left,show sz+k*sz+(c x).length=sz+(k*sz+(c x).length) by omega,←List.drop_drop,List.drop_left' (hc y)]
  simp only[List.append_assoc]
theorem zKf{P:Program}{α:Type}{c:α->List AV}{sz:Nat}(hc:wG c sz){l l2:List α}{k:Nat}{x:α}(h:zCN l k x=some l2):Ob.ok P (.wt (zF c l) (k*sz) (.agg (c x)) sz (zF c l2)):=by
 unfold zCN at h
 split at h
 ·rename_i hk
  cases h
  refine⟨hc.one x,hc.len x,?_,zAq hc.len l k x hk⟩
  rw[wQ hc.len]
  have:=Nat.mul_le_mul_right sz (show k+1≤l.length from hk)
  rw[Nat.add_mul,Nat.one_mul]at this
  exact this
 ·cases h
theorem dK{P:Program}{α:Type}{c:α->List AV}{sz:Nat}(hc:wG c sz){t e:TypeId}{ie:TypeInfo}(ht:P.underlying t=some (.slice e))(hi:P.info? e=some ie)(hs:ie.size=sz){l r:List α}{b:Int}{k k':IntKind}
  {o:uI} (h:C4 l 0 b=some r):wT P t (.sl (zF c l) l.length o) none (some (.val (.int k b))) (some (.val (.int k' b)))=some (.sl (zF c r) r.length .full):=by
 obtain⟨_,h1,h2,rfl⟩:=b8 h
 subst hs
 have key:wT P t (.sl (zF c l) l.length o) none (some (.val (.int k b))) (some (.val (.int k' b)))=some (.sl (zF c (l.take b.toNat)) (l.take b.toNat).length (o.cut 0 b.toNat (Nat.beq b.toNat l.length) (Nat.beq b.toNat b.toNat))):=by
  unfold wT
  simp only[ht,hi,amx,eE,wF]
  rw[if_pos ⟨h1,h2⟩]
  simp only[Option.map_some]
  have hbb:(0≤b∧b≤(b.toNat:Nat)):=⟨h1,by omega⟩
  rw[if_pos hbb]
  simp only[Option.isSome_some,Option.isNone_some,Bool.false_eq_true,and_false,if_false]
  rw[if_pos (by rw[wQ hc.len];simp)]
  simp only[Nat.sub_zero,Nat.zero_mul,List.drop_zero,Bool.true_and]
  rw[oH hc.len]
  have hl:(l.take b.toNat).length=b.toNat:=by simp;omega
  rw[hl]
 rw[key]
 simp only[uI.cut,Nat.beq_refl,if_true,Int.sub_zero,Int.toNat_zero,List.drop_zero]
theorem zKe{P:Program}{t e:TypeId}{ie:TypeInfo}(ht:P.underlying t=some (.slice e))(hi:P.info? e=some ie){sz:Nat}(hs:ie.size=sz){b o n k c z:Nat}{i:Int}(h:uR n i=some k) :
  yX P t (.ms b (o*sz) n c z) (ai i)=some (.mp b ((o+k)*sz)):=by
 unfold uR at h
 split at h
 ·rename_i hc
  cases h
  unfold yX
  simp only[ht,hi]
  rw[if_pos hc,hs,Nat.add_mul]
 ·cases h
def nN(n:Nat)(a b:Int):Option (Nat×Nat):=if 0≤a∧a≤b∧b≤n then some (a.toNat,(b-a).toNat)else none
theorem eO{n:Nat}{a b:Int}{r:Nat×Nat}(h:nN n a b=some r):0≤a∧a≤b∧b≤n∧r.1=a.toNat∧r.2=b.toNat-a.toNat:=by
 unfold nN at h
 split at h
 ·rename_i q
  cases h
  exact⟨q.1,q.2.1,q.2.2,rfl,by show (b-a).toNat=_;omega⟩
 ·cases h
theorem zAp{P:Program}{t e:TypeId}{ie:TypeInfo}(ht:P.underlying t=some (.slice e))(hi:P.info? e=some ie){sz:Nat}(hs:ie.size=sz)(h1:1≤sz){b o n c m:Nat}{x y:Int}{r:Nat×Nat}{lo hi':Option AV}(hm:msb n c hi' none=m)(h:nN m x y=some r)
  (hlo:∀h,wF h 0 lo=if 0≤x∧x≤h then some x.toNat else none) (hhi:wF m m hi'=if 0≤y∧y≤m then some y.toNat else none) :
  wT P t (.ms b (o*sz) n c sz) lo hi' none=some (.ms b ((o+r.1)*sz) r.2 (c-r.1) sz):=by
 obtain⟨q1,q2,q3,q4,q5⟩:=eO h
 subst hs
 unfold wT
 simp only[ht,hi,amx,hm,hhi]
 rw[if_pos ⟨by omega,q3⟩]
 simp only[hlo]
 rw[if_neg (by simp),if_pos ⟨q1,by omega⟩]
 simp only
 rw[if_pos ⟨trivial,h1⟩,q4,q5,Nat.add_mul]
 rfl
theorem zOj{P:Program}{t e:TypeId}{ie:TypeInfo}(ht:P.underlying t=some (.slice e))(hi:P.info? e=some ie){sz:Nat}(hs:ie.size=sz)(h1:1≤sz){b o n c:Nat}{x y:Int}{r:Nat×Nat}(h:nN c x y=some r) :
  wT P t (.ms b (o*sz) n c sz) (some (ai x)) (some (ai y)) none=some (.ms b ((o+r.1)*sz) r.2 (c-r.1) sz):=zAp ht hi hs h1 rfl h (fun _=>rfl) rfl
theorem D2{P:Program}{t e:TypeId}{ie:TypeInfo}(ht:P.underlying t=some (.slice e))(hi:P.info? e=some ie){sz:Nat}(hs:ie.size=sz)(h1:1≤sz){b o n c:Nat}{x:Int}{r:Nat×Nat}(h:nN n x n=some r) :
  wT P t (.ms b (o*sz) n c sz) (some (ai x)) none none=some (.ms b ((o+r.1)*sz) r.2 (c-r.1) sz):=zAp ht hi hs h1 rfl h (fun _=>rfl) (by simp[wF,msb])
theorem zAo{P:Program}{t e:TypeId}{ie:TypeInfo}(ht:P.underlying t=some (.slice e))(hi:P.info? e=some ie){sz:Nat}(hs:ie.size=sz)(h1:1≤sz){b off n c:Nat}{y:Int}{r:Nat×Nat}(h:nN c 0 y=some r) :
  wT P t (.ms b off n c sz) none (some (ai y)) none=some (.ms b off r.2 c sz):=by
 obtain⟨q1,q2,q3,q4,q5⟩:=eO h
 subst hs
 have h2:wF c c (some (ai y))=some y.toNat:=by
  show (if 0≤y∧y≤(c:Int)then some y.toNat else none)=_
  rw[if_pos ⟨by omega,q3⟩]
 unfold wT
 simp only[ht,hi,amx,show msb n c (some (ai y)) none=c from rfl,h2]
 rw[if_neg (by simp)]
 simp only[wF]
 rw[if_pos ⟨trivial,h1⟩,q5]
 simp
theorem zKd{P:Program}{t e:TypeId}{ie:TypeInfo}(ht:P.underlying t=some (.slice e))(hi:P.info? e=some ie){sz:Nat}(hs:ie.size=sz)(h1:1≤sz){b o n c:Nat}{x y:Int}{r:Nat×Nat}(h:nN n x y=some r) :
  wT P t (.ms b (o*sz) n c sz) (some (ai x)) (some (ai y)) (some (ai (n:Int)))=some (.ms b ((o+r.1)*sz) r.2 (n-r.1) sz):=by
 obtain⟨q1,q2,q3,q4,q5⟩:=eO h
 subst hs
 have hc:eE n (ai (n:Int))=some n:=by
  show (if 0≤(n:Int)∧(n:Int)≤(n:Int)then some (n:Int).toNat else none)=_
  rw[if_pos ⟨by omega,by omega⟩,Int.toNat_natCast]
 have hd:wF n n (some (ai y))=some y.toNat:=by
  show (if 0≤y∧y≤(n:Int)then some y.toNat else none)=_
  rw[if_pos ⟨by omega,q3⟩]
 have he:wF y.toNat 0 (some (ai x))=some x.toNat:=by
  show (if 0≤x∧x≤(y.toNat:Int)then some x.toNat else none)=_
  rw[if_pos ⟨q1,by omega⟩]
 unfold wT
 simp only[ht,hi,show msb n c (some (ai y)) (some (ai (n:Int)))=n from rfl,amx,hc,Option.map_some,hd]
 rw[if_neg (by simp)]
 simp only[he]
 rw[if_pos ⟨trivial,h1⟩,q4,q5,Nat.add_mul]
 rfl
theorem ldF{P:Program}{α:Type}{c:α->List AV}{sz:Nat}(hc:wG c sz){l:List α}{k:Nat}{x:α}(h:yG l (k:Int)=some x)(off:Nat)(q:Bool×Nat){val:AV}(e:tP q ((c x++zF c (l.drop (k+1))).drop off)=some val) :
  Ob.ok P (.ld (tP q ((zF c l).drop (k*sz+off))) val):=by
 show tP q _=some val
 rw[zHo hc h,e]
theorem U1{P:Program}{α:Type}{c:α->List AV}{sz:Nat}(hc:wG c sz){l:List α}{k:Nat}{x:α}(h:yG l (k:Int)=some x)(q:Bool×Nat){val:AV}(e:tP q (c x++zF c (l.drop (k+1)))=some val) :
  Ob.ok P (.ld (tP q ((zF c l).drop (k*sz))) val):=by
 show tP q _=some val
 rw[zDZ hc h,e]
theorem wtE{P:Program}{α:Type}{c:α->List AV}{sz:Nat}(hc:wG c sz){l l2:List α}{k:Nat}{x:α}{cs:List AV}(he:c x=cs)(h:zCN l k x=some l2):Ob.ok P (.wt (zF c l) (k*sz) (.agg cs) sz (zF c l2)):=he▸zKf hc h
def zAn{α:Type}(l:List α)(o n:Nat):Option (List α):=if o+n≤l.length then some ((l.drop o).take n)else none
theorem zCO{α:Type}{l r:List α}{o n:Nat}(h:zAn l o n=some r):r=(l.drop o).take n∧r.length=n:=by
 unfold zAn at h
 split at h
 ·cases h
  exact⟨rfl,by rw[List.length_take,List.length_drop];omega⟩
 ·cases h
theorem U2{P:Program}{α:Type}{c:α->List AV}{sz:Nat}(hc:wG c sz){t e:TypeId}{ie:TypeInfo}{z:Value}(ht:P.underlying t=some (.slice e))(hi:P.info? e=some ie)(hs:ie.size=sz)(hz:ie.zero=some z)(hzs:z.cells.size=sz)(h1:1≤sz){B:Nat}(hb:ie.bytes=B)(hB:1≤B)
  {l m r:List α} (h:yV B l m=some r) (hm:m.length≠0) (z1:Option Nat) (hz1:∀q,z1=some q->q=sz) (src:Option (Nat×Nat×Nat)) (hsrc:∀q,src=some q->q.2.2=sz) :
  rY P t t z1 (zF c l) l.length src (zF c m) m.length=some (zF c r,r.length):=by
 obtain⟨h2,rfl⟩:=uB h
 subst hs
 subst hb
 have h3:(l.length+m.length)*1≤(l.length+m.length)*ie.bytes:=Nat.mul_le_mul_left _ hB
 unfold rY
 simp only[ht,hi,hz]
 rw[if_pos ⟨trivial,wQ hc.len l,wQ hc.len m,h1,hzs,h2,by omega,gL hc.one m,hm,hz1,hsrc⟩,gM,List.length_append]
theorem zCP{α:Type}{c:α->List AV}{sz:Nat}(hc:∀x,(c x).length=sz)(l:List α)(o n:Nat):dF (zF c l) (o*sz) n sz=zF c ((l.drop o).take n):=by
 unfold dF
 rw[jA hc,oH hc]
theorem D3{P:Program}{α:Type}{c:α->List AV}{sz:Nat}(hc:wG c sz){t e:TypeId}{ie:TypeInfo}{z:Value}(ht:P.underlying t=some (.slice e))(hi:P.info? e=some ie)(hs:ie.size=sz)(hz:ie.zero=some z)(hzs:z.cells.size=sz)(h1:1≤sz){B:Nat}(hb:ie.bytes=B)(hB:1≤B)
  {m r:List α} (h:yV B ([]:List α) m=some r) (hm:m.length≠0):Ob.ok P (.mk (rY P t t none [] 0 none (zF c m) m.length) (zF c r) r.length):=
 U2 hc ht hi hs hz hzs h1 hb hB h hm none (fun _ h=>nomatch h) none (fun _ h=>nomatch h)
theorem tE{P:Program}{α:Type}{c:α->List AV}{sz:Nat}(hc:wG c sz){t e:TypeId}{ie:TypeInfo}{z:Value}(ht:P.underlying t=some (.slice e))(hi:P.info? e=some ie)(hs:ie.size=sz)(hz:ie.zero=some z)(hzs:z.cells.size=sz)(h1:1≤sz){B:Nat}(hb:ie.bytes=B)(hB:1≤B)
  {l m r:List α} (h:yV B l m=some r) (hm:m.length≠0):Ob.ok P (.mk (rY P t t (some sz) (zF c l) l.length none (zF c m) m.length) (zF c r) r.length):=
 U2 hc ht hi hs hz hzs h1 hb hB h hm _ (fun _ h=>(Option.some.inj h).symm) none (fun _ h=>nomatch h)
theorem zFi{P:Program}{α:Type}{c:α->List AV}{sz:Nat}(hc:wG c sz){t e:TypeId}{ie:TypeInfo}{z:Value}(ht:P.underlying t=some (.slice e))(hi:P.info? e=some ie)(hs:ie.size=sz)(hz:ie.zero=some z)(hzs:z.cells.size=sz)(h1:1≤sz){B:Nat}(hb:ie.bytes=B)(hB:1≤B)
  {l l' m r:List α} {n:Nat} (hf:gfz n l=some l') (h:yV B l' m=some r) (hm:m.length≠0):Ob.ok P (.mk (rY P t t (some sz) (zF c l) n none (zF c m) m.length) (zF c r) r.length):=by
 obtain⟨rfl,rfl⟩:=tD hf
 exact tE hc ht hi hs hz hzs h1 hb hB h hm
theorem zKc{P:Program}{α:Type}{c:α->List AV}{sz:Nat}(hc:wG c sz){t e:TypeId}{ie:TypeInfo}(ht:P.underlying t=some (.slice e))(hi:P.info? e=some ie)(hs:ie.size=sz){l m r:List α}{n k:Nat}(hr:r=l.take n++m)(hn:n≤l.length)(hk:n+m.length≤k)(src:Option Nat)(hsrc:∀q,src=some q->q=sz) :
  zCA P t t sz (zF c l) n k src (zF c m) m.length=some (zF c r):=by
 subst hs
 subst hr
 unfold zCA
 simp only[ht,hi]
 rw[if_pos ⟨trivial,trivial,by rw[wQ hc.len];exact Nat.mul_le_mul_right _ hn,wQ hc.len m,hk,gL hc.one m,hsrc⟩,oH hc.len,gM]
def zHn{α:Type}(c n:Nat)(l m:List α):Option (List α):=if n+m.length≤c∧n≤l.length then some (l.take n++m)else none
theorem zFh{α:Type}{c n:Nat}{l m r:List α}(h:zHn c n l m=some r):r=l.take n++m∧n≤l.length∧n+m.length≤c:=by
 unfold zHn at h
 split at h
 ·rename_i q;cases h;exact⟨rfl,q.2,q.1⟩
 ·cases h
theorem zHm{P:Program}{α:Type}{c:α->List AV}{sz:Nat}(hc:wG c sz){t e:TypeId}{ie:TypeInfo}(ht:P.underlying t=some (.slice e))(hi:P.info? e=some ie)(hs:ie.size=sz){l m' m r:List α}{n k o n2:Nat}(hp:zAn m' o n2=some m)(h:zHn k n l m=some r) :
  Ob.ok P (.inp (zCA P t t sz (zF c l) n k (some sz) (dF (zF c m') (o*sz) n2 sz) n2) (zF c r)):=by
 obtain⟨rfl,hn⟩:=zCO hp
 obtain⟨q1,q2,q3⟩:=zFh h
 rw[zCP hc.len]
 have:=zKc hc ht hi hs q1 q2 q3 (some sz) (fun _ h=>(Option.some.inj h).symm)
 rw[hn]at this
 exact this
def gle(a b:Nat):Option Unit:=if a≤b then some ()else none
theorem zHl{a b:Nat}{u:Unit}(h:gle a b=some u):a≤b:=by
 unfold gle at h
 split at h
 ·assumption
 ·cases h
theorem zOi{P:Program}{t e:TypeId}{ie:TypeInfo}{zv:Value}(ht:P.underlying t=some (.slice e))(hi:P.info? e=some ie)(hz:ie.zero=some zv){sz:Nat}(hzs:zv.cells.size=sz)(h1:zv.cells.toList.all Value.oneCell'=true){l off:Nat}(h:l≤off):Ob.ok P (.clr t l off sz):=
 ⟨h,e,ie,zv,ht,hi,hz,hzs,h1⟩
theorem zVZ{P:Program}{α:Type}{c:α->List AV}{sz:Nat}(hc:wG c sz){t e:TypeId}{ie:TypeInfo}{zv:Value}(ht:P.underlying t=some (.slice e))(hi:P.info? e=some ie)(hz:ie.zero=some zv)(hzs:zv.cells.size=sz)(h1:zv.cells.toList.all Value.oneCell'=true){l:List α}{o:Nat}{u:Unit}(h:gle l.length o=some u):Ob.ok P (.clr t (zF c l).length (o*sz) sz):=
 zOi ht hi hz hzs h1 (by rw[wQ hc.len];exact Nat.mul_le_mul_right _ (zHl h))
theorem X8{P:Program}{t e:TypeId}{ie:TypeInfo}(ht:P.underlying t=some (.slice e))(hi:P.info? e=some ie){n:Nat}(h:n=0):Ob.ok P (.same t t n):=⟨rfl,h,e,ie,ht,hi⟩
def rK:List (Int×Int)->Nat->List MapEntry
 | [],_=>[]
 |p::m,c=>{ key:=.int .i64 p.1,val:=.int .i64 p.2,born:=c } :: rK m (c+1)
def iL(m:List (Int×Int)):yW:=.obj (.map ⟨rK m 0⟩ m.length)
def zCQ:List (Int×Int)->Int->Option Int
 | [],_=>none
 |p::m,k=>if (k==p.1)=true then some p.2 else zCQ m k
def zHk(m:List (Int×Int))(k:Int):Int:=match zCQ m k with|some v=>v|none=>0
def zFg(m:List (Int×Int))(k:Int):Bool:=match zCQ m k with|some _=>true|none=>false
def D4:List (Int×Int)->Int->Int->List (Int×Int)
 | [],k,v=>[(k,v)]
 |p::m,k,v=>if (k==p.1)=true then(k,v)::m else p::D4 m k v
def gT:List (Int×Int)->Int->Nat->Option (Nat×Value)
 | [],_,_=>none
 |p::m,k,i=>if (k==p.1)=true then some (i,.int .i64 p.2)else gT m k (i+1)
theorem nO(k:Int):∀(m:List (Int×Int)) (c i:Nat),Instr.findNow (.int .i64) (.int .i64 k) (rK m c) i=some (gT m k i)
 | [],_,_=>rfl
 |p::m,c,i=>by
  simp only[rK,Instr.findNow,Instr.sameNow,gT,if_true]
  cases hb:(k==p.1)with
  |true=>rfl
  |false=>simp only[Bool.false_eq_true,if_false];exact nO k m (c+1) (i+1)
theorem D5(k:Int):∀(m:List (Int×Int)) (i:Nat),(gT m k i).map Prod.snd=(zCQ m k).map (Value.int .i64)
 | [],_=>rfl
 |p::m,i=>by
  simp only[gT,zCQ]
  cases hb:(k==p.1)with
  |true=>rfl
  |false=>simp only[Bool.false_eq_true,if_false];exact D5 k m (i+1)
theorem zHj(k:Int)(m:List (Int×Int)):zEU (gT m k 0) (.int .i64 0)=ai (zHk m k):=by
 have h:=D5 k m 0
 unfold zHk
 cases h1:gT m k 0<;>cases h2:zCQ m k<;>rw[h1,h2]at h
 ·rfl
 ·cases h
 ·cases h
 ·simp only[Option.map_some,Option.some.injEq]at h
  rename_i q v
  obtain⟨j,u⟩:=q
  simp only at h
  subst h
  rfl
theorem zHi(k:Int)(m:List (Int×Int)):(gT m k 0).isSome=zFg m k:=by
 have h:=D5 k m 0
 unfold zFg
 cases h1:gT m k 0<;>cases h2:zCQ m k<;>rw[h1,h2]at h
 ·rfl
 ·cases h
 ·cases h
 ·rfl
theorem gU:∀(m:List (Int×Int)) (c:Nat),(rK m c).length=m.length
 | [],_=>rfl
 |_::m,c=>by simp[rK,gU m (c+1)]
theorem zAm(k v:Int):∀(m:List (Int×Int)) (c i:Nat),
    (match gT m k i with
      |some (j,_)=>i≤j∧(rK m c).modify (j-i) (fun e=>{ e with key:=.int .i64 k,val:=.int .i64 v })=rK (D4 m k v) c∧(D4 m k v).length=m.length
      |none=>rK m c++[{ key:=.int .i64 k,val:=.int .i64 v,born:=c+m.length }]=rK (D4 m k v) c∧(D4 m k v).length=m.length+1)
  | [],c,i=>by simp[gT,D4,rK]
  |p::m,c,i=>by
    simp only[gT,D4]
    cases hb:(k==p.1)with
    |true=>simp[rK]
    |false=>
      simp only[Bool.false_eq_true,if_false]
      have ih:=zAm k v m (c+1) (i+1)
      cases hm:gT m k (i+1)with
      |none=>
        rw[hm]at ih
        simp only at ih ⊢
        refine⟨?_,by simp[ih.2]⟩
        simp only[rK,List.cons_append,List.length_cons]
        rw[←ih.1,show c+(m.length+1)=c+1+m.length by omega]
      |some q=>
        obtain⟨j,u⟩:=q
        rw[hm]at ih
        simp only at ih ⊢
        refine⟨by omega,?_,by simp[ih.2.2]⟩
        simp only[rK]
        rw[show j-i=(j-(i+1))+1 by omega,List.modify_succ_cons,ih.2.1]
variable {P:Program} {t kt et:TypeId} {ie:TypeInfo}
theorem zOh(ht:P.underlying t=some (.map kt et))(hk:P.underlying kt=some (.int .i64))(he:P.info? et=some ie)(hz:ie.zero=some (.int .i64 0))(m:List (Int×Int))(k:Int) :
  Ob.ok P (.lk t (iL m) (ai k) true (.tup [ai (zHk m k),ab (zFg m k)])):=by
 intro ev i s hl
 unfold qK
 simp only[ht,ai,hk,he,iL]at hl ⊢
 simp only[hl,hz,nO,uJ,cond_true,if_true,zHj,zHi]
theorem zOg(ht:P.underlying t=some (.map kt et))(hk:P.underlying kt=some (.int .i64))(m:List (Int×Int))(k v:Int) :
  Ob.ok P (.mu t (iL m) (ai k) (ai v) (iL (D4 m k v))):=by
 intro ev i s hl
 unfold uT
 simp only[ht,ai,hk,iL]at hl ⊢
 simp only[hl,nO,uJ,cond_true]
 have h:=zAm k v m 0 0
 cases hm:gT m k 0 with
 |none=>
  rw[hm]at h
  simp only[Nat.zero_add]at h ⊢
  rw[h.2,←h.1]
  simp
 |some q=>
  obtain⟨j,u⟩:=q
  rw[hm]at h
  simp only[Nat.sub_zero]at h ⊢
  have e:(⟨rK m 0⟩:Array MapEntry).modify j (fun e=>{ e with key:=.int .i64 k,val:=.int .i64 v })=⟨rK (D4 m k v) 0⟩:=by
   apply Array.ext'
   rw[Array.toList_modify]
   exact h.2.1
  rw[h.2.2,e]
theorem zOf(ht:P.underlying t=some (.map kt et))(m:List (Int×Int)):Ob.ok P (.ln t (iL m) (ai (m.length:Int))):=
 ⟨_,_,_,_,rfl,ht,by simp[goInt,gU]⟩
abbrev zH {α:Type} (c:α->List AV) (l:List α) (o:uI):AV:=.sl (zF c l) l.length o
abbrev iM (n:Nat):List nF:=List.replicate n .no
structure OL (P:Program) (os:List nF) (ob:List Ob):Prop where
 ok:yR P ob
theorem yR.rev{P:Program}:∀(a b:List Ob),yR P a->yR P b->yR P (a.reverseAux b)
 | [],_,_,k=>k
 |x::a,b,h,k=>yR.rev a (x::b) h.2 ⟨h.1,k⟩
section
variable {P:Program} {os:List nF} {ob:List Ob}
theorem OL.nil:OL P [] []:=⟨trivial⟩
theorem oB{b b':Bool}(n:Nat)(h:b=b')(k:OL P os ob):OL P (.bit b'::(iM n++os)) (.bit b b'::ob):=⟨⟨h,k.ok⟩⟩
theorem oA{x:Option AV}{a:AV}(n:Nat)(h:x=some a)(k:OL P os ob):OL P (.av a::(iM n++os)) (.av x a::ob):=⟨⟨h,k.ok⟩⟩
theorem oC{f:FuncId}{H0:List yW}{args:List AV}{res:AV}{H1:List yW}{nst:Nat}(n:Nat)(ι:List Nat)(h:CT P f H0 args res H1 nst)(k:OL P os ob):OL P (.call ι H1 nst res none::(iM n++os)) (.call f H0 args res H1 nst::ob):=⟨⟨h,k.ok⟩⟩
theorem oK{b b':Bool}{f:FuncId}{H0:List yW}{args:List AV}{res:AV}{H1:List yW}{nst:Nat}(n:Nat)(ι:List Nat)(hb:b=b')(h:CT P f H0 args res H1 nst)(k:OL P os ob):OL P (.call ι H1 nst res (some b')::(iM n++os)) (.call f H0 args res H1 nst :: .bit b b'::ob):=⟨⟨h,hb,k.ok⟩⟩
theorem oP{t t2:TypeId}{es es2 es':List AV}{n1 n2 n' sz:Nat}{e:Bool}(n:Nat)(h:Ob.ok P (.app t t2 es es2 es' n1 n2 n' sz e))(k:OL P os ob):OL P (.app es' n' sz e::(iM n++os)) (.app t t2 es es2 es' n1 n2 n' sz e::ob):=⟨⟨h,k.ok⟩⟩
theorem oS{cs es:List AV}{l m:Nat}(n:Nat)(h:Ob.ok P (.cells cs es l m))(k:OL P os ob):OL P (.sl es m::(iM n++os)) (.cells cs es l m::ob):=⟨⟨h,k.ok⟩⟩
theorem oL{t:TypeId}{X:yW}{key:AV}{o:Bool}{a:AV}(n:Nat)(h:Ob.ok P (.lk t X key o a))(k:OL P os ob):OL P (.lk a::(iM n++os)) (.lk t X key o a::ob):=⟨⟨h,k.ok⟩⟩
theorem oU{t:TypeId}{X Y:yW}{key v:AV}(n:Nat)(h:Ob.ok P (.mu t X key v Y))(k:OL P os ob):OL P (.mu Y::(iM n++os)) (.mu t X key v Y::ob):=⟨⟨h,k.ok⟩⟩
theorem oM{x:Option (List AV×Nat)}{cs:List AV}{m:Nat}(n:Nat)(h:Ob.ok P (.mk x cs m))(k:OL P os ob):OL P (.mk cs m::(iM n++os)) (.mk x cs m::ob):=⟨⟨h,k.ok⟩⟩
theorem oMl{x:Option (List AV×Nat)}{cs:List AV}{m:Nat}(n:Nat)(h:Ob.ok P (.mk x cs m))(k:OL P os ob):OL P (.mkl cs m::(iM n++os)) (.mk x cs m::ob):=⟨⟨h,k.ok⟩⟩
theorem oG{x:Option AV}{a:AV}(n:Nat)(h:Ob.ok P (.ld x a))(k:OL P os ob):OL P (.ld a::(iM n++os)) (.ld x a::ob):=⟨⟨h,k.ok⟩⟩
theorem oW{cs:List AV}{off:Nat}{v:AV}{sz:Nat}{cs':List AV}(n:Nat)(h:Ob.ok P (.wt cs off v sz cs'))(k:OL P os ob):OL P (.wt cs'::(iM n++os)) (.wt cs off v sz cs'::ob):=⟨⟨h,k.ok⟩⟩
theorem oN{t:TypeId}{X:yW}{a:AV}(n:Nat)(h:Ob.ok P (.ln t X a))(k:OL P os ob):OL P (.lk a::(iM n++os)) (.ln t X a::ob):=⟨⟨h,k.ok⟩⟩
theorem oI{x:Option (List AV)}{cs:List AV}(n:Nat)(h:Ob.ok P (.inp x cs))(k:OL P os ob):OL P (.inp cs::(iM n++os)) (.inp x cs::ob):=⟨⟨h,k.ok⟩⟩
theorem oQ{t t2:TypeId}{m:Nat}(n:Nat)(h:Ob.ok P (.same t t2 m))(k:OL P os ob):OL P (.same::(iM n++os)) (.same t t2 m::ob):=⟨⟨h,k.ok⟩⟩
theorem oR{t:TypeId}{l off z:Nat}(n:Nat)(h:Ob.ok P (.clr t l off z))(k:OL P os ob):OL P (.clr::(iM n++os)) (.clr t l off z::ob):=⟨⟨h,k.ok⟩⟩
theorem oD{es:List AV}(h:AV.DataL es)(k:OL P os ob):OL P os (.data es::ob):=⟨⟨h,k.ok⟩⟩
end
theorem xA{α:Type}{b:Bool}{x y:Option α}{r:α}(h:(if b=true then x else y)=some r):(b=true∧x=some r)∨(b=false∧y=some r):=by
 cases b
 ·exact .inr ⟨rfl,by simpa using h⟩
 ·exact .inl ⟨rfl,by simpa using h⟩
theorem xD{α:Type}{b:Bool}{x:Option α}{r:α}(h:(if b=true then x else none)=some r):b=true∧x=some r:=by
 rcases xA h with h|⟨_,h⟩
 ·exact h
 ·cases h
theorem zT{α:Type}{b:Bool}{x:Option α}{r:α}(h:(if b=true then none else x)=some r):b=false∧x=some r:=by
 rcases xA h with⟨_,h⟩|h
 ·cases h
 ·exact h
theorem nn{α:Type}{r:α}{p:Prop}(h:(none:Option α)=some r):p:=nomatch h
theorem sj{α:Type}{x y:α}(h:some x=some y):x=y:=Option.some.inj h
def sp(j:Nat->Value):Nat->Nat->List (Nat×AV)->List AV
 |0,_,_=>[]
 |n+1,i,l=>match l with
  | []=>.val (j i)::sp j n (i+1) []
  | (m,a)::l'=>bif Nat.beq m i then a::sp j n (i+1) l' else .val (j i)::sp j n (i+1) l
section
variable {P:Program} {pr:FuncId->List AV->xK->Option LA} (hp:sX P pr) (hm:P.follows .mixedOrders=true) {na:Nb} {fn:Func} {f:FuncId}
include hp hm
theorem OL.toHead{H0 H1:List yW}{args:List AV}{res:AV}{nst:Nat}(q:P.funcs[f]? = some fn∧fn.body.isNone=false)(m:Nat)(rs:List (Option Nat×Nat×Nat))(keep ks live:List Nat){os:List nF}{ob:List Ob}(k:OL P os ob){c:Code}{fs':List Fr}{E:(Nat->Value)->List AV}{S:xK}
  (hk:∀j,Dl P H0.length c (E j) S (vC P H0.length (C3 P H0.length fn res H1 nst) fs'))
  (h:∀j,lM P pr H0.length 3000 (.run (wO fn)) [] (args++List.replicate (fn.ntmps-args.length) (.val undef)) (gA H0) ((iM m++os).reverseAux []) rs keep ks live j=some (c,fs',E j,S,ob.reverseAux [])):wZ P f H0 args res H1 nst:=
 wZ.toHead hp hm q.1 q.2 3000 _ rs keep ks live h (yR.rev _ _ k.ok trivial) hk
theorem OL.toFin{H0 H1:List yW}{args:List AV}{res:AV}{nst:Nat}(q:P.funcs[f]? = some fn∧fn.body.isNone=false)(m:Nat)(rs:List (Option Nat×Nat×Nat))(keep ks:List Nat)(own:Bool){os:List nF}{ob:List Ob}(k:OL P os ob)
  (h:jK P pr H0.length fn 3000 (.run (wO fn)) [] (args++List.replicate (fn.ntmps-args.length) (.val undef)) (gA H0) ((iM m++os).reverseAux []) rs keep ks own=some (res,H1,ob.reverseAux [])) (hn:nst≤ks.length):wZ P f H0 args res H1 nst:=
 wZ.toFin hp hm q.1 q.2 3000 _ rs keep ks own h (yR.rev _ _ k.ok trivial) hn
theorem OL.lHead{Q:AX->List AV->xK->Prop}{c c':Code}{fs fs':List Fr}{env:List AV}{s S:xK}(m:Nat)(rs:List (Option Nat×Nat×Nat))(keep ks live:List Nat){os:List nF}{ob:List Ob}(k:OL P os ob){E:(Nat->Value)->List AV}
  (hk:∀j,Dl P na c' (E j) S (vC P na Q fs')) (h:∀j,lM P pr na.n 3000 (.run c) (.loop c::fs) env s ((iM m++os).reverseAux []) rs keep ks live j=some (c',fs',E j,S,ob.reverseAux [])):Dl P na c env s (vC P na Q fs):=
 Dl.toHead hp hm 3000 _ rs keep ks live h (yR.rev _ _ k.ok trivial) hk
theorem OL.lFin{c:Code}{fs:List Fr}{env:List AV}{s:xK}{res:AV}{H1:List yW}{nst:Nat}(m:Nat)(rs:List (Option Nat×Nat×Nat))(keep ks:List Nat)(own:Bool){os:List nF}{ob:List Ob}(k:OL P os ob)
  (h:jK P pr na.n fn 3000 (.run c) (.loop c::fs) env s ((iM m++os).reverseAux []) rs keep ks own=some (res,H1,ob.reverseAux [])) (hn:nst≤ks.length):Dl P na c env s (vC P na (C3 P na fn res H1 nst) fs):=
 Dl.toFin hp hm 3000 _ rs keep ks own h (yR.rev _ _ k.ok trivial) hn
end
def gbs(s:ByteArray):List U8:=s.data.toList.map fun b=>(b.toNat:Int)
theorem gV(s:ByteArray):(gbs s).length=s.size:=by unfold gbs;rw[List.length_map,Array.length_toList];rfl
theorem zCR(s:ByteArray):vH s=zF gK (gbs s):=by
 unfold vH gbs
 generalize s.data.toList=l
 induction l with
 |nil=>rfl
 |cons b l ih=>
  unfold zF at ih ⊢
  rw[List.map_cons,List.map_cons,List.flatMap_cons,ih];rfl
section
variable {P:Program} {t t2 e:TypeId} {ie:TypeInfo} {z:Value}
theorem zAl(ht:P.underlying t=some (.slice e))(hu:P.underlying t2=some .string)(hi:P.info? e=some ie)(hs:ie.size=1)(hz:ie.zero=some z)(hzs:z.cells.size=1)(hb:ie.bytes=1)
  {l r:List U8} {bs:ByteArray} (h:yV 1 l (gbs bs)=some r) {o:uI} {s:xK} {ev:Operand->AV} :
  sB P t t2 ev (.sl (zF gK l) l.length o) bs s=bif Nat.beq bs.size 0 then some { ev:=ev,v:=.sl (zF gK l) l.length o }
     else
      match o with
      | .full=>some { ev:=ev,ns:=s.ns,new:=1,v:=.sl (zF gK r) r.length (.st s.ns 1) }
      | .nl=>some { ev:=ev,ns:=s.ns,new:=1,v:=.sl (zF gK r) r.length (.st s.ns 1) }
      | .st k sz'=>bif s.own.any (Nat.beq k)&&Nat.beq sz' 1 then some { ev:=ev,use:=[k],ns:=s.ns,new:=1,v:=.sl (zF gK r) r.length (.st s.ns 1) }else none
      |_=>none:=by
 obtain⟨h2,rfl⟩:=uB h
 rw[gV]at h2
 unfold sB
 simp only[ht,hu,hi,hz,hs,hb]
 have hcond:(Nat.beq (zF gK l).length (l.length*1)&&Nat.beq 1 1&&Nat.beq z.cells.size 1&&Nat.ble ((l.length+bs.size)*1) 140737488355328&&Nat.ble (l.length+bs.size) 4611686018427387904)=true:=by
  simp only[Bool.and_eq_true]
  exact⟨⟨⟨⟨by rw[wQ X5.len];simp,rfl⟩,by rw[hzs];rfl⟩,by simpa using h2⟩,by simp;omega⟩
 rw[hcond]
 simp only[cond_true,gM,List.length_append,gV,zCR]
 cases o<;>rfl
theorem zHh(ht:P.underlying t=some (.slice e))(hu:P.underlying t2=some .string)(hi:P.info? e=some ie)(hs:ie.size=1)(hz:ie.zero=some z)(hzs:z.cells.size=1)(hb:ie.bytes=1)
  {l r:List U8} {bs:ByteArray} (h:yV 1 l (gbs bs)=some r) (hm:bs.size≠0):Ob.ok P (.aps t t2 (zF gK l) bs (zF gK r) l.length r.length 1 false):=by
 intro ev s o
 rw[zAl ht hu hi hs hz hzs hb h]
 cases hn:Nat.beq bs.size 0 with
 |true=>exact absurd (Nat.eq_of_beq_eq_true hn) hm
 |false=>cases o<;>rfl
theorem zHg(ht:P.underlying t=some (.slice e))(hu:P.underlying t2=some .string)(hi:P.info? e=some ie)(hs:ie.size=1)(hz:ie.zero=some z)(hzs:z.cells.size=1)(hb:ie.bytes=1)
  {l r:List U8} {bs:ByteArray} (h:yV 1 l (gbs bs)=some r) (hm:bs.size=0):Ob.ok P (.aps t t2 (zF gK l) bs (zF gK r) l.length r.length 1 true):=by
 intro ev s o
 rw[zAl ht hu hi hs hz hzs hb h]
 obtain⟨_,rfl⟩:=uB h
 have:gbs bs=[]:=List.length_eq_zero_iff.1 (by rw[gV,hm])
 rw[hm,this,List.append_nil];rfl
end
section
variable {P:Program} {os:List nF} {ob:List Ob}
theorem zKb{s:ByteArray}{p:Nat}(h:p<s.size):Ob.ok P (.nx (.obj (.stringIter s p)) (.tup [ab true,ai (p:Int),.val (.int .i32 ((Utf8.decode s p).1:Nat))]) (some (.obj (.stringIter s (p+(Utf8.decode s p).2))))):=by
 intro ev i st hl
 unfold eZ
 have hb:Nat.blt p s.size=true:=Nat.ble_eq_true_of_le h
 simp only[hl,hb,cond_true]
 rfl
theorem zKa{s:ByteArray}{p:Nat}(h:¬p<s.size):Ob.ok P (.nx (.obj (.stringIter s p)) (.tup [ab false]) none):=by
 intro ev i st hl
 unfold eZ
 have hb:Nat.blt p s.size=false:=by
  cases hc:Nat.blt p s.size with
  |false=>rfl
  |true=>exact absurd (Nat.le_of_ble_eq_true hc) h
 simp only[hl,hb,cond_false]
 rfl
theorem oMz{x:Option (List AV×Nat)}{cs:List AV}{m:Nat}(n:Nat)(h:Ob.ok P (.mk x cs m))(k:OL P os ob):OL P (.mz cs m::(iM n++os)) (.mk x cs m::ob):=⟨⟨h,k.ok⟩⟩
theorem oCx{f:FuncId}{H0:List yW}{args:List AV}{res:AV}{H1:List yW}{nst:Nat}(n:Nat)(ι:List Nat)(h:CT P f H0 args res H1 nst)(k:OL P os ob):OL P (.callx ι H1 nst res none::(iM n++os)) (.call f H0 args res H1 nst::ob):=⟨⟨h,k.ok⟩⟩
theorem rF(n:Nat)(k:OL P os ob):OL P (.cl::(iM n++os)) ob:=⟨k.ok⟩
theorem zSh{t t2:TypeId}{k:IntKind}(h2:P.underlying t2=some (.int k)){n:Int}(hp:n>0){cs:List AV}{m:Nat}(h:Ob.ok P (.mk (sY P t (ai n) (ai n)) cs m)):Ob.ok P (.mk (B7 P t t2 (ai n)) cs m):=by
 show B7 P t t2 (ai n)=some (cs,m)
 unfold B7
 rw[h2]
 simp only
 rw[if_pos (by omega)]
 exact h
theorem oX{X:yW}{v:AV}{Y:Option yW}(n:Nat)(h:Ob.ok P (.nx X v Y))(k:OL P os ob):OL P (.nx v Y::(iM n++os)) (.nx X v Y::ob):=⟨⟨h,k.ok⟩⟩
theorem oPs{t t2:TypeId}{es es':List AV}{bs:ByteArray}{n1 n' sz:Nat}{e:Bool}(n:Nat)(h:Ob.ok P (.aps t t2 es bs es' n1 n' sz e))(k:OL P os ob):OL P (.app es' n' sz e::(iM n++os)) (.aps t t2 es bs es' n1 n' sz e::ob):=⟨⟨h,k.ok⟩⟩
end
end Go.Ab
set_option linter.unusedSimpArgs false
namespace Go.Ab
open Go Go.RowKit
def yO{α:Type}(c:α->List AV)(l:List α):List AV:=[.sl (zF c l) l.length .no]
theorem xQ{α:Type}{c:α->List AV}{n:Nat}(h:wG c n):wG (yO c) 1:=⟨fun _=>rfl,fun l=>⟨⟨trivial,xT h.data l⟩,trivial⟩,fun _=>rfl⟩
theorem yP{α:Type}{c:α->List AV}{n:Nat}(h:wG c n)(l:List (List α)):AV.DataL (zF (yO c) l):=xT (xQ h).data l
def boC(b:Bool):List AV:=[ab b]
theorem zHf:wG boC 1:=⟨fun _=>rfl,fun _=>⟨trivial,trivial⟩,fun _=>rfl⟩
theorem dB(l:List Bool):AV.DataL (zF boC l):=xT zHf.data l
theorem xL{P:Program}{α:Type}{C L:α->List AV}(he:∀t,C t=L t)(l:List α):Ob.ok P (.cells (zF L l) (zF C l) l.length l.length):=⟨by rw[show L=C from funext fun t=>(he t).symm],rfl⟩
theorem zFf{P:Program}{t e n:Nat}{q:Bool×Nat}(ht:P.underlying t=some (.array n e))(hi:S4 P e=some q)(hq:q=(false,1)){l:List U8}{i:Int}{k:IntKind}{x:Int}(hl:l.length=n)(h:yG l i=some x) :
  sL P t (.agg (zF gK l)) (.val (.int k i))=some (.val (.int .u8 x)):=by
 obtain⟨h0,h1,h2⟩:=jB h
 subst hq
 unfold sL
 simp only[ht,hi]
 rw[if_pos ⟨h0,by omega⟩,cL X5.len h2]
 rfl
theorem zSg{P:Program}(cs:List AV)(n:Nat):Ob.ok P (.mk (some (cs,n)) cs n):=rfl
inductive eP
def nP(x:eP):List AV:=nomatch x
theorem D6:wG nP 7:=⟨(fun x=>nomatch x),(fun x=>nomatch x),(fun x=>nomatch x)⟩
theorem nR(l:List eP):AV.DataL (zF nP l):=xT D6.data l
inductive zO where
 |mk (kind_:Int) (at_:Int) (name_:ByteArray) (n_:Int) (sub_:List zO)
def zO.kind_:zO->Int | .mk x _ _ _ _=>x
def zO.at_:zO->Int | .mk _ x _ _ _=>x
def zO.name_:zO->ByteArray | .mk _ _ x _ _=>x
def zO.n_:zO->Int | .mk _ _ _ x _=>x
def zO.sub_:zO->List zO | .mk _ _ _ _ x=>x
instance:Inhabited zO:=⟨.mk default default ⟨#[]⟩ default default⟩
mutual
def zR:zO->List AV
 | .mk kind_ at_ name_ n_ sub_=>[ai kind_,ai at_,at' name_,ai n_,.sl (sR sub_) sub_.length .no]
def sR:List zO->List AV
 | []=>[]
 |t::l=>zR t++sR l
end
theorem lS:∀l:List zO,sR l=zF zR l
 | []=>rfl
 |t::l=>by simp only[sR,lS l,zF,List.flatMap_cons]
def jD(x:zO):List AV:=[ai x.kind_,ai x.at_,at' x.name_,ai x.n_,zH zR x.sub_ .no]
theorem vU(x:zO):zR x=jD x:=by
 cases x;simp only[zR,jD,zO.kind_,zO.at_,zO.name_,zO.n_,zO.sub_,lS,List.cons_append,List.nil_append]
def xP(x:zO):AV:=.agg (jD x)
mutual
theorem jU:∀t:zO,AV.DataL (zR t)
 | .mk kind_ at_ name_ n_ sub_=>by rw[zR];exact⟨trivial,trivial,trivial,trivial,⟨trivial,lT sub_⟩,trivial⟩
theorem lT:∀l:List zO,AV.DataL (sR l)
 | []=>trivial
 |t::l=>by rw[sR];exact uF (jU t) (lT l)
end
theorem pP:wG zR 5:=⟨fun x=>by rw[vU];rfl,jU,fun x=>by rw[vU];rfl⟩
theorem zL(l:List zO):AV.DataL (zF zR l):=xT pP.data l
structure yJ where
 name_:ByteArray
 at_:Int
 type_:zO
instance:Inhabited yJ:=⟨⟨⟨#[]⟩,default,default⟩⟩
def zN(x:yJ):List AV:=[at' x.name_,ai x.at_,ai x.type_.kind_,ai x.type_.at_,at' x.type_.name_,ai x.type_.n_,zH zR x.type_.sub_ .no]
theorem R1:wG zN 7:=⟨fun _=>rfl,fun _=>⟨trivial,trivial,trivial,trivial,trivial,trivial,⟨trivial,zL _⟩,trivial⟩,fun _=>rfl⟩
theorem yC(l:List yJ):AV.DataL (zF zN l):=xT R1.data l
structure xC where
 at_:Int
 pats_:List zO
 has_:Bool
 body_:zO
instance:Inhabited xC:=⟨⟨default,default,default,default⟩⟩
def yH(x:xC):List AV:=[ai x.at_,zH zR x.pats_ .no,ab x.has_,ai x.body_.kind_,ai x.body_.at_,at' x.body_.name_,ai x.body_.n_,zH zR x.body_.sub_ .no]
def D7(x:xC):AV:=.agg (yH x)
theorem nS:wG yH 8:=⟨fun _=>rfl,fun _=>⟨trivial,⟨trivial,zL _⟩,trivial,trivial,trivial,trivial,trivial,⟨trivial,zL _⟩,trivial⟩,fun _=>rfl⟩
theorem yT(l:List xC):AV.DataL (zF yH l):=xT nS.data l
structure wX where
 kind_:Int
 at_:Int
 name_:ByteArray
 tele_:List yJ
 type_:zO
 cons_:List yJ
 rows_:List xC
instance:Inhabited wX:=⟨⟨default,default,⟨#[]⟩,default,default,default,default⟩⟩
def vT(x:wX):List AV:=[ai x.kind_,ai x.at_,at' x.name_,zH zN x.tele_ .no,ai x.type_.kind_,ai x.type_.at_,at' x.type_.name_,ai x.type_.n_,zH zR x.type_.sub_ .no,zH zN x.cons_ .no,zH yH x.rows_ .no]
def oO(x:wX):AV:=.agg (vT x)
theorem pQ:wG vT 11:=⟨fun _=>rfl,fun _=>⟨trivial,trivial,trivial,⟨trivial,yC _⟩,trivial,trivial,trivial,trivial,⟨trivial,zL _⟩,⟨trivial,yC _⟩,⟨trivial,yT _⟩,trivial⟩,fun _=>rfl⟩
theorem jE(l:List wX):AV.DataL (zF vT l):=xT pQ.data l
structure wR where
 n_:Int
 t_:Tm
instance:Inhabited wR:=⟨⟨default,default⟩⟩
def yI(x:wR):List AV:=[ai x.n_,ai x.t_.k,ai x.t_.n,zH zC x.t_.sub .no]
theorem uX:wG yI 4:=⟨fun _=>rfl,fun _=>⟨trivial,trivial,trivial,⟨trivial,dT _⟩,trivial⟩,fun _=>rfl⟩
theorem yB(l:List wR):AV.DataL (zF yI l):=xT uX.data l
structure wI where
 n_:Int
 type_:Tm
instance:Inhabited wI:=⟨⟨default,default⟩⟩
def zJ(x:wI):List AV:=[ai x.n_,ai x.type_.k,ai x.type_.n,zH zC x.type_.sub .no]
def zHe(x:wI):AV:=.agg (zJ x)
theorem wH:wG zJ 4:=⟨fun _=>rfl,fun _=>⟨trivial,trivial,trivial,⟨trivial,dT _⟩,trivial⟩,fun _=>rfl⟩
theorem zE(l:List wI):AV.DataL (zF zJ l):=xT wH.data l
mutual
inductive zY where
 |mk (con_:Int) (yes_:Bool) (args_:List Int) (solved_:List wR) (t_:yF)
inductive yF where
 |mk (kind_:Int) (row_:Int) (var_:Int) (vars_:List wI) (binds_:List Tm) (args_:List Tm) (kids_:List zY)
end
def zY.con_:zY->Int | .mk x _ _ _ _=>x
def zY.yes_:zY->Bool | .mk _ x _ _ _=>x
def zY.args_:zY->List Int | .mk _ _ x _ _=>x
def zY.solved_:zY->List wR | .mk _ _ _ x _=>x
def zY.t_:zY->yF | .mk _ _ _ _ x=>x
def yF.kind_:yF->Int | .mk x _ _ _ _ _ _=>x
def yF.row_:yF->Int | .mk _ x _ _ _ _ _=>x
def yF.var_:yF->Int | .mk _ _ x _ _ _ _=>x
def yF.vars_:yF->List wI | .mk _ _ _ x _ _ _=>x
def yF.binds_:yF->List Tm | .mk _ _ _ _ x _ _=>x
def yF.args_:yF->List Tm | .mk _ _ _ _ _ x _=>x
def yF.kids_:yF->List zY | .mk _ _ _ _ _ _ x=>x
instance:Inhabited yF:=⟨.mk default default default default default default default⟩
instance:Inhabited zY:=⟨.mk default default default default default⟩
mutual
def zV:zY->List AV
 | .mk con_ yes_ args_ solved_ t_=>[ai con_,ab yes_,zH zS args_ .no,zH yI solved_ .no]++wM t_
def wM:yF->List AV
 | .mk kind_ row_ var_ vars_ binds_ args_ kids_=>[ai kind_,ai row_,ai var_,zH zJ vars_ .no,zH zC binds_ .no,zH zC args_ .no,.sl (sS kids_) kids_.length .no]
def sS:List zY->List AV
 | []=>[]
 |t::l=>zV t++sS l
end
theorem qA:∀l:List zY,sS l=zF zV l
 | []=>rfl
 |t::l=>by simp only[sS,qA l,zF,List.flatMap_cons]
def uG(x:yF):List AV:=[ai x.kind_,ai x.row_,ai x.var_,zH zJ x.vars_ .no,zH zC x.binds_ .no,zH zC x.args_ .no,zH zV x.kids_ .no]
theorem sF(x:yF):wM x=uG x:=by
 cases x;simp only[wM,uG,yF.kind_,yF.row_,yF.var_,yF.vars_,yF.binds_,yF.args_,yF.kids_,qA,List.cons_append,List.nil_append]
def wD(x:yF):AV:=.agg (uG x)
def eQ(x:zY):List AV:=[ai x.con_,ab x.yes_,zH zS x.args_ .no,zH yI x.solved_ .no,ai x.t_.kind_,ai x.t_.row_,ai x.t_.var_,zH zJ x.t_.vars_ .no,zH zC x.t_.binds_ .no,zH zC x.t_.args_ .no,zH zV x.t_.kids_ .no]
theorem lU(x:zY):zV x=eQ x:=by
 cases x;simp only[zV,eQ,zY.con_,zY.yes_,zY.args_,zY.solved_,zY.t_,sF,uG,qA,List.cons_append,List.nil_append]
def U3(x:zY):AV:=.agg (eQ x)
mutual
theorem jV:∀t:zY,AV.DataL (zV t)
 | .mk con_ yes_ args_ solved_ t_=>by rw[zV];exact uF (⟨trivial,trivial,⟨trivial,dI _⟩,⟨trivial,yB _⟩,trivial⟩) (lV t_)
theorem lV:∀t:yF,AV.DataL (wM t)
 | .mk kind_ row_ var_ vars_ binds_ args_ kids_=>by rw[wM];exact⟨trivial,trivial,trivial,⟨trivial,zE _⟩,⟨trivial,dT _⟩,⟨trivial,dT _⟩,⟨trivial,lW kids_⟩,trivial⟩
theorem lW:∀l:List zY,AV.DataL (sS l)
 | []=>trivial
 |t::l=>by rw[sS];exact uF (jV t) (lW l)
end
theorem jW:wG zV 11:=⟨fun x=>by rw[lU];rfl,jV,fun x=>by rw[lU];rfl⟩
theorem zM(l:List zY):AV.DataL (zF zV l):=xT jW.data l
theorem lX:wG wM 7:=⟨fun x=>by rw[sF];rfl,lV,fun x=>by rw[sF];rfl⟩
theorem tM(l:List yF):AV.DataL (zF wM l):=xT lX.data l
structure yM where
 has_:Bool
 term_:Tm
instance:Inhabited yM:=⟨⟨default,default⟩⟩
def zZ(x:yM):List AV:=[ab x.has_,ai x.term_.k,ai x.term_.n,zH zC x.term_.sub .no]
theorem vA:wG zZ 4:=⟨fun _=>rfl,fun _=>⟨trivial,trivial,trivial,⟨trivial,dT _⟩,trivial⟩,fun _=>rfl⟩
theorem zQ(l:List yM):AV.DataL (zF zZ l):=xT vA.data l
inductive zK where
 |mk (kind_:Int) (n_:Int) (at_:Int) (sub_:List zK) (t_:Tm)
def zK.kind_:zK->Int | .mk x _ _ _ _=>x
def zK.n_:zK->Int | .mk _ x _ _ _=>x
def zK.at_:zK->Int | .mk _ _ x _ _=>x
def zK.sub_:zK->List zK | .mk _ _ _ x _=>x
def zK.t_:zK->Tm | .mk _ _ _ _ x=>x
instance:Inhabited zK:=⟨.mk default default default default default⟩
mutual
def zI:zK->List AV
 | .mk kind_ n_ at_ sub_ t_=>[ai kind_,ai n_,ai at_,.sl (uY sub_) sub_.length .no,ai t_.k,ai t_.n,zH zC t_.sub .no]
def uY:List zK->List AV
 | []=>[]
 |t::l=>zI t++uY l
end
theorem oT:∀l:List zK,uY l=zF zI l
 | []=>rfl
 |t::l=>by simp only[uY,oT l,zF,List.flatMap_cons]
def qP(x:zK):List AV:=[ai x.kind_,ai x.n_,ai x.at_,zH zI x.sub_ .no,ai x.t_.k,ai x.t_.n,zH zC x.t_.sub .no]
theorem tI(x:zK):zI x=qP x:=by
 cases x;simp only[zI,qP,zK.kind_,zK.n_,zK.at_,zK.sub_,zK.t_,oT,List.cons_append,List.nil_append]
def xZ(x:zK):AV:=.agg (qP x)
mutual
theorem mP:∀t:zK,AV.DataL (zI t)
 | .mk kind_ n_ at_ sub_ t_=>by rw[zI];exact⟨trivial,trivial,trivial,⟨trivial,oV sub_⟩,trivial,trivial,⟨trivial,dT _⟩,trivial⟩
theorem oV:∀l:List zK,AV.DataL (uY l)
 | []=>trivial
 |t::l=>by rw[uY];exact uF (mP t) (oV l)
end
theorem zG:wG zI 7:=⟨fun x=>by rw[tI];rfl,mP,fun x=>by rw[tI];rfl⟩
theorem zX(l:List zK):AV.DataL (zF zI l):=xT zG.data l
structure zCS where
 types_:List Tm
 result_:Tm
 rows_:List (List zK)
 names_:List (List ByteArray)
 bodies_:List yM
 tree_:yF
 type_:Tm
instance:Inhabited zCS:=⟨⟨default,default,default,default,default,default,default⟩⟩
structure zAk where
 types_:List Tm
 result_:Tm
 tree_:yF
 bodies_:List yM
instance:Inhabited zAk:=⟨⟨default,default,default,default⟩⟩
structure yK where
 kind_:Int
 text_:ByteArray
 at_:Int
instance:Inhabited yK:=⟨⟨default,⟨#[]⟩,default⟩⟩
def yA(x:yK):List AV:=[ai x.kind_,at' x.text_,ai x.at_]
def dM(x:yK):AV:=.agg (yA x)
theorem rI:wG yA 3:=⟨fun _=>rfl,fun _=>⟨trivial,trivial,trivial,trivial⟩,fun _=>rfl⟩
theorem zP(l:List yK):AV.DataL (zF yA l):=xT rI.data l
structure zAj where
 l_:List yK
 i_:Int
 at_:Int
 bad_:Int
instance:Inhabited zAj:=⟨⟨default,default,default,default⟩⟩
structure uW where
 e_:Int
 row_:Int
 at_:Int
instance:Inhabited uW:=⟨⟨default,default,default⟩⟩
def zAi(x:uW):List AV:=[ai x.e_,ai x.row_,ai x.at_]
def dN(x:uW):AV:=.agg (zAi x)
structure tS where
 vars_:List wI
 ihs_:List wI
 args_:List Tm
 levels_:List eP
instance:Inhabited tS:=⟨⟨default,default,default,default⟩⟩
def zCT(x:tS):List AV:=[zH zJ x.vars_ .no,zH zJ x.ihs_ .no,zH zC x.args_ .no,zH nP x.levels_ .no]
def iN(x:tS):AV:=.agg (zCT x)
structure wJ where
 c_:List wI
 args_:List Tm
instance:Inhabited wJ:=⟨⟨default,default⟩⟩
def zAh(x:wJ):List AV:=[zH zJ x.c_ .no,zH zC x.args_ .no]
def rG(x:wJ):AV:=.agg (zAh x)
structure yY where
 con_:Int
 yes_:Bool
 args_:List Int
 vars_:List wI
 solved_:List wR
instance:Inhabited yY:=⟨⟨default,default,default,default,default⟩⟩
def xI(x:yY):List AV:=[ai x.con_,ab x.yes_,zH zS x.args_ .no,zH zJ x.vars_ .no,zH yI x.solved_ .no]
def rO(x:yY):AV:=.agg (xI x)
theorem sT:wG xI 5:=⟨fun _=>rfl,fun _=>⟨trivial,trivial,⟨trivial,dI _⟩,⟨trivial,zE _⟩,⟨trivial,yB _⟩,trivial⟩,fun _=>rfl⟩
theorem xW(l:List yY):AV.DataL (zF xI l):=xT sT.data l
structure zAg where
 signs_:List Int
 at_:List Int
 i_:Int
instance:Inhabited zAg:=⟨⟨default,default,default⟩⟩
structure zFe where
 l_:List pN
 parts_:List nH
instance:Inhabited zFe:=⟨⟨default,default⟩⟩
structure zAf where
 l_:List pN
 e_:Int
 at_:Int
instance:Inhabited zAf:=⟨⟨default,default,default⟩⟩
structure R2 where
 l_:List pN
 names_:List ByteArray
 e_:Int
 at_:Int
instance:Inhabited R2:=⟨⟨default,default,default,default⟩⟩
structure zFd where
 out_:Bool
 stuck_:Bool
 waits_:Bool
 none_:Bool
 n_:Int
 at_:Int
 binds_:List Tm
instance:Inhabited zFd:=⟨⟨default,default,default,default,default,default,default⟩⟩
structure zKA where
 x_:Int
 d_:Int
 pars_:List Tm
 inds_:List Tm
 ys_:List Int
 theta_:List wI
 typ_:Tm
 level_:Int
 plain_:Bool
instance:Inhabited zKA:=⟨⟨default,default,default,default,default,default,default,default,default⟩⟩
structure zAe where
 fn_:Int
 n_:Int
 out_:List (List Tm)
 e_:Int
instance:Inhabited zAe:=⟨⟨default,default,default,default⟩⟩
structure zFc where
 e_:Int
instance:Inhabited zFc:=⟨⟨default⟩⟩
structure zHd where
 p_:Tm
 t_:Tm
instance:Inhabited zHd:=⟨⟨default,default⟩⟩
structure zKB where
 t_:Tm
 around_:List Int
 at_:List Tm
 ih_:Int
instance:Inhabited zKB:=⟨⟨default,default,default,default⟩⟩
structure vE where
 yes_:Bool
 vars_:List wI
 solved_:List wR
 steps_:List Int
instance:Inhabited vE:=⟨⟨default,default,default,default⟩⟩
def X9(x:vE):List AV:=[ab x.yes_,zH zJ x.vars_ .no,zH yI x.solved_ .no,zH zS x.steps_ .no]
def uH(x:vE):AV:=.agg (X9 x)
structure wV where
 a_:Tm
 b_:Tm
instance:Inhabited wV:=⟨⟨default,default⟩⟩
def yZ(x:wV):List AV:=[ai x.a_.k,ai x.a_.n,zH zC x.a_.sub .no,ai x.b_.k,ai x.b_.n,zH zC x.b_.sub .no]
def lY(x:wV):AV:=.agg (yZ x)
theorem tN:wG yZ 6:=⟨fun _=>rfl,fun _=>⟨trivial,trivial,⟨trivial,dT _⟩,trivial,trivial,⟨trivial,dT _⟩,trivial⟩,fun _=>rfl⟩
theorem yU(l:List wV):AV.DataL (zF yZ l):=xT tN.data l
end Go.Ab
namespace Go.Proofs.YthncfoeaibgmnaaGreat
open Go Go.Ab Go.Proofs.Tryz
theorem eR(b:Bool):b=true∨b=false:=by cases b<;>simp
theorem zB{α:Type}{p:α->Prop}:∀x∈([]:List α),p x:=fun _ h=>nomatch h
theorem zA{α:Type}{p:α->Prop}{a:α}{l:List α}(h:p a)(k:∀x∈l,p x):∀x∈a::l,p x:=by
 intro x hx
 rcases List.mem_cons.1 hx with rfl|hx
 ·exact h
 ·exact k x hx
theorem o0:OL prog [] []:=OL.nil
abbrev mB (M:xR) (i:Nat):yW:=.cells [zH yE M.l .no,.mp i 0,zH zS M.args .no,zH zS M.own .no]
abbrev mR (M:xR):yW:=.cells [zH yE M.rl .no,zH pO M.parts .no]
theorem tv:True:=trivial
theorem lz{a b:Nat}(h:Nat.ble (a+1) b=true):a<b:=Nat.le_of_ble_eq_true h
abbrev Ct:=CT prog
abbrev Ci:=wZ prog
abbrev Cf:=FuncId->List yW->List AV->AV->List yW->Nat->Prop
abbrev Qf (f:FuncId) (fn:Func):Prop:=prog.funcs[f]? = some fn∧fn.body.isNone=false
section
variable {f:FuncId} {fn:Func} {H0 H1:List yW} {args:List AV} {res:AV} {nst:Nat} {os:List nF} {ob:List Ob}
theorem tF(q:Qf f fn)(m:Nat)(keep:List Nat)(k:OL prog os ob)(h:jK prog uQ H0.length fn 3000 (.run (wO fn)) [] (args++List.replicate (fn.ntmps-args.length) (.val undef)) (gA H0) ((iM m++os).reverseAux []) [] keep [] false=some (res,H1,ob.reverseAux []):=by kernel_rfl):wZ prog f H0 args res H1 0:=OL.toFin wC mixed q m [] keep [] false k h (Nat.le_refl _)
theorem tG(q:Qf f fn)(m:Nat)(rs:List (Option Nat×Nat×Nat))(keep ks:List Nat)(own:Bool)(k:OL prog os ob)(h:jK prog uQ H0.length fn 3000 (.run (wO fn)) [] (args++List.replicate (fn.ntmps-args.length) (.val undef)) (gA H0) ((iM m++os).reverseAux []) rs keep ks own=some (res,H1,ob.reverseAux []):=by kernel_rfl)(hn:nst≤ks.length:=by decide):wZ prog f H0 args res H1 nst:=OL.toFin wC mixed q m rs keep ks own k h hn
theorem tH(q:Qf f fn)(m:Nat)(rs:List (Option Nat×Nat×Nat))(keep ks live:List Nat)(k:OL prog os ob){c:Code}{fs':List Fr}{E:(Nat->Value)->List AV}{S:xK}(hk:∀j,Dl prog H0.length c (E j) S (vC prog H0.length (C3 prog H0.length fn res H1 nst) fs'))(h:∀j,lM prog uQ H0.length 3000 (.run (wO fn)) [] (args++List.replicate (fn.ntmps-args.length) (.val undef)) (gA H0) ((iM m++os).reverseAux []) rs keep ks live j=some (c,fs',E j,S,ob.reverseAux []):=by intro j;kernel_rfl):wZ prog f H0 args res H1 nst:=OL.toHead wC mixed q m rs keep ks live k hk h
variable {na:Nb} {Q:AX->List AV->xK->Prop} {c c':Code} {fs fs':List Fr} {env:List AV} {s S:xK}
theorem lH(m:Nat)(rs:List (Option Nat×Nat×Nat))(keep ks live:List Nat)(k:OL prog os ob){E:(Nat->Value)->List AV}(hk:∀j,Dl prog na c' (E j) S (vC prog na Q fs'))(h:∀j,lM prog uQ na.n 3000 (.run c) (.loop c::fs) env s ((iM m++os).reverseAux []) rs keep ks live j=some (c',fs',E j,S,ob.reverseAux []):=by intro j;kernel_rfl):Dl prog na c env s (vC prog na Q fs):=OL.lHead wC mixed m rs keep ks live k hk h
theorem lF(m:Nat)(keep:List Nat)(k:OL prog os ob)(h:jK prog uQ na.n fn 3000 (.run c) (.loop c::fs) env s ((iM m++os).reverseAux []) [] keep [] false=some (res,H1,ob.reverseAux []):=by kernel_rfl):Dl prog na c env s (vC prog na (C3 prog na fn res H1 0) fs):=OL.lFin wC mixed m [] keep [] false k h (Nat.le_refl _)
theorem lG(m:Nat)(rs:List (Option Nat×Nat×Nat))(keep ks:List Nat)(own:Bool)(k:OL prog os ob)(h:jK prog uQ na.n fn 3000 (.run c) (.loop c::fs) env s ((iM m++os).reverseAux []) rs keep ks own=some (res,H1,ob.reverseAux []):=by kernel_rfl)(hn:nst≤ks.length:=by decide):Dl prog na c env s (vC prog na (C3 prog na fn res H1 nst) fs):=OL.lFin wC mixed m rs keep ks own k h hn
end
theorem qC:prog.info? 33=some Tryz.t33:=by kernel_rfl
theorem uZ:prog.info? 207=some Tryz.t207:=by kernel_rfl
theorem zOe{l m' m r:List wI}{n k o n2:Nat}(hp:zAn m' o n2=some m)(h:zHn k n l m=some r):Ob.ok prog (.inp (zCA prog 78 78 4 (zF zJ l) n k (some 4) (dF (zF zJ m') (o*4) n2 4) n2) (zF zJ r)):=zHm wH Tryz.underlying78 uZ rfl hp h
theorem gW:prog.info? 292=some Tryz.t292:=by kernel_rfl
theorem zOd{l m r:List (List (List Int))}(h:yV 24 l m=some r)(hm:m.length=0):Ob.ok prog (.app 129 129 (zF (yO (yO zS)) l) (zF (yO (yO zS)) m) (zF (yO (yO zS)) r) l.length m.length r.length 1 true):=sQ (xQ (xQ yL)) Tryz.underlying129 gW rfl rfl rfl (by decide) rfl (by decide) h hm
theorem D8:prog.info? 37=some Tryz.t37:=by kernel_rfl
theorem zSf{l m r:List pN}(h:yV 192 l m=some r)(hm:m.length=0):Ob.ok prog (.app 22 22 (zF yE l) (zF yE m) (zF yE r) l.length m.length r.length 15 true):=sQ sP Tryz.underlying22 D8 rfl rfl rfl (by decide) rfl (by decide) h hm
theorem Y0:prog.info? 378=some Tryz.t378:=by kernel_rfl
theorem zHc{l m r:List wR}(h:yV 48 l m=some r)(hm:m.length=0):Ob.ok prog (.app 220 220 (zF yI l) (zF yI m) (zF yI r) l.length m.length r.length 4 true):=sQ uX Tryz.underlying220 Y0 rfl rfl rfl (by decide) rfl (by decide) h hm
theorem U4:prog.info? 9=some Tryz.t9:=by kernel_rfl
theorem zSe{l m r:List ByteArray}(h:yV 16 l m=some r)(hm:m.length=0):Ob.ok prog (.app 27 27 (zF xG l) (zF xG m) (zF xG r) l.length m.length r.length 1 true):=sQ yN Tryz.underlying27 U4 rfl rfl rfl (by decide) rfl (by decide) h hm
theorem zAd{l m r:List Tm}(h:yV 40 l m=some r)(hm:m.length=0):Ob.ok prog (.app 31 31 (zF zC l) (zF zC m) (zF zC r) l.length m.length r.length 3 true):=sQ xM Tryz.underlying31 qC rfl rfl rfl (by decide) rfl (by decide) h hm
theorem dO:prog.info? 3=some Tryz.t3:=by kernel_rfl
theorem zAc{l m r:List Int}(h:yV 8 l m=some r)(hm:m.length=0):Ob.ok prog (.app 35 35 (zF zS l) (zF zS m) (zF zS r) l.length m.length r.length 1 true):=sQ yL Tryz.underlying35 dO rfl rfl rfl (by decide) rfl (by decide) h hm
theorem zSd{l m r:List wI}(h:yV 48 l m=some r)(hm:m.length=0):Ob.ok prog (.app 78 78 (zF zJ l) (zF zJ m) (zF zJ r) l.length m.length r.length 4 true):=sQ wH Tryz.underlying78 uZ rfl rfl rfl (by decide) rfl (by decide) h hm
theorem zSc{n:Nat}(h:n=0):Ob.ok prog (.same 31 31 n):=X8 Tryz.underlying31 qC h
theorem zSb{n:Nat}(h:n=0):Ob.ok prog (.same 35 35 n):=X8 Tryz.underlying35 dO h
theorem zSa{n:Nat}(h:n=0):Ob.ok prog (.same 78 78 n):=X8 Tryz.underlying78 uZ h
theorem zOc{l m r:List (List (List Int))}(h:yV 24 l m=some r)(hm:m.length≠0):Ob.ok prog (.mk (rY prog 129 129 (some 1) (zF (yO (yO zS)) l) l.length none (zF (yO (yO zS)) m) m.length) (zF (yO (yO zS)) r) r.length):=tE (xQ (xQ yL)) Tryz.underlying129 gW rfl rfl rfl (by decide) rfl (by decide) h hm
theorem zEy:prog.info? 222=some Tryz.t222:=by kernel_rfl
theorem zOb{l m r:List yY}(h:yV 88 l m=some r)(hm:m.length≠0):Ob.ok prog (.mk (rY prog 217 217 (some 5) (zF xI l) l.length none (zF xI m) m.length) (zF xI r) r.length):=tE sT Tryz.underlying217 zEy rfl rfl rfl (by decide) rfl (by decide) h hm
theorem zSA{l m r:List ByteArray}(h:yV 16 l m=some r)(hm:m.length≠0):Ob.ok prog (.mk (rY prog 27 27 (some 1) (zF xG l) l.length none (zF xG m) m.length) (zF xG r) r.length):=tE yN Tryz.underlying27 U4 rfl rfl rfl (by decide) rfl (by decide) h hm
theorem zHb:prog.info? 31=some Tryz.t31:=by kernel_rfl
theorem zOa{l m r:List (List Tm)}(h:yV 24 l m=some r)(hm:m.length≠0):Ob.ok prog (.mk (rY prog 288 288 (some 1) (zF (yO zC) l) l.length none (zF (yO zC) m) m.length) (zF (yO zC) r) r.length):=tE (xQ xM) Tryz.underlying288 zHb rfl rfl rfl (by decide) rfl (by decide) h hm
theorem Y1:prog.info? 534=some Tryz.t534:=by kernel_rfl
theorem zOA{l m r:List wV}(h:yV 80 l m=some r)(hm:m.length≠0):Ob.ok prog (.mk (rY prog 518 518 (some 6) (zF yZ l) l.length none (zF yZ m) m.length) (zF yZ r) r.length):=tE tN Tryz.underlying518 Y1 rfl rfl rfl (by decide) rfl (by decide) h hm
theorem zEx:prog.info? 184=some Tryz.t184:=by kernel_rfl
theorem zNK{l m r:List (List zK)}(h:yV 24 l m=some r)(hm:m.length≠0):Ob.ok prog (.mk (rY prog 75 75 (some 1) (zF (yO zI) l) l.length none (zF (yO zI) m) m.length) (zF (yO zI) r) r.length):=tE (xQ zG) Tryz.underlying75 zEx rfl rfl rfl (by decide) rfl (by decide) h hm
theorem zHa:prog.info? 27=some Tryz.t27:=by kernel_rfl
theorem zNL{l m r:List (List ByteArray)}(h:yV 24 l m=some r)(hm:m.length≠0):Ob.ok prog (.mk (rY prog 76 76 (some 1) (zF (yO xG) l) l.length none (zF (yO xG) m) m.length) (zF (yO xG) r) r.length):=tE (xQ yN) Tryz.underlying76 zHa rfl rfl rfl (by decide) rfl (by decide) h hm
theorem zEw:prog.info? 125=some Tryz.t125:=by kernel_rfl
theorem zNM{l m r:List yM}(h:yV 48 l m=some r)(hm:m.length≠0):Ob.ok prog (.mk (rY prog 77 77 (some 4) (zF zZ l) l.length none (zF zZ m) m.length) (zF zZ r) r.length):=tE vA Tryz.underlying77 zEw rfl rfl rfl (by decide) rfl (by decide) h hm
theorem zSB{l m r:List wI}(h:yV 48 l m=some r)(hm:m.length≠0):Ob.ok prog (.mk (rY prog 78 78 (some 4) (zF zJ l) l.length none (zF zJ m) m.length) (zF zJ r) r.length):=tE wH Tryz.underlying78 uZ rfl rfl rfl (by decide) rfl (by decide) h hm
theorem zOB{l l' m r:List Tm}{n:Nat}(hf:gfz n l=some l')(h:yV 40 l' m=some r)(hm:m.length≠0):Ob.ok prog (.mk (rY prog 31 31 (some 3) (zF zC l) n none (zF zC m) m.length) (zF zC r) r.length):=zFi xM Tryz.underlying31 qC rfl rfl rfl (by decide) rfl (by decide) hf h hm
theorem zHA{l m r:List (List (List Int))}(h:yV 24 l m=some r)(hm:m.length≠0):Ob.ok prog (.app 129 129 (zF (yO (yO zS)) l) (zF (yO (yO zS)) m) (zF (yO (yO zS)) r) l.length m.length r.length 1 false):=vD (xQ (xQ yL)) Tryz.underlying129 gW rfl rfl rfl (by decide) rfl (by decide) h hm
theorem zEv:prog.info? 190=some Tryz.t190:=by kernel_rfl
theorem zHB{l m r:List zK}(h:yV 88 l m=some r)(hm:m.length≠0):Ob.ok prog (.app 184 184 (zF zI l) (zF zI m) (zF zI r) l.length m.length r.length 7 false):=vD zG Tryz.underlying184 zEv rfl rfl rfl (by decide) rfl (by decide) h hm
theorem zNN{l m r:List pN}(h:yV 192 l m=some r)(hm:m.length≠0):Ob.ok prog (.app 22 22 (zF yE l) (zF yE m) (zF yE r) l.length m.length r.length 15 false):=vD sP Tryz.underlying22 D8 rfl rfl rfl (by decide) rfl (by decide) h hm
theorem zHC{l m r:List wR}(h:yV 48 l m=some r)(hm:m.length≠0):Ob.ok prog (.app 220 220 (zF yI l) (zF yI m) (zF yI r) l.length m.length r.length 4 false):=vD uX Tryz.underlying220 Y0 rfl rfl rfl (by decide) rfl (by decide) h hm
theorem zHD{l m r:List ByteArray}(h:yV 16 l m=some r)(hm:m.length≠0):Ob.ok prog (.app 27 27 (zF xG l) (zF xG m) (zF xG r) l.length m.length r.length 1 false):=vD yN Tryz.underlying27 U4 rfl rfl rfl (by decide) rfl (by decide) h hm
theorem zHE:prog.info? 35=some Tryz.t35:=by kernel_rfl
theorem zCU{l m r:List (List Int)}(h:yV 24 l m=some r)(hm:m.length≠0):Ob.ok prog (.app 292 292 (zF (yO zS) l) (zF (yO zS) m) (zF (yO zS) r) l.length m.length r.length 1 false):=vD (xQ yL) Tryz.underlying292 zHE rfl rfl rfl (by decide) rfl (by decide) h hm
theorem vO{l m r:List Tm}(h:yV 40 l m=some r)(hm:m.length≠0):Ob.ok prog (.app 31 31 (zF zC l) (zF zC m) (zF zC r) l.length m.length r.length 3 false):=vD xM Tryz.underlying31 qC rfl rfl rfl (by decide) rfl (by decide) h hm
theorem zKC:prog.info? 414=some Tryz.t414:=by kernel_rfl
theorem zOC{l m r:List iH}(h:yV 56 l m=some r)(hm:m.length≠0):Ob.ok prog (.app 330 330 (zF Q8 l) (zF Q8 m) (zF Q8 r) l.length m.length r.length 3 false):=vD zHw Tryz.underlying330 zKC rfl rfl rfl (by decide) rfl (by decide) h hm
theorem sG{l m r:List Int}(h:yV 8 l m=some r)(hm:m.length≠0):Ob.ok prog (.app 35 35 (zF zS l) (zF zS m) (zF zS r) l.length m.length r.length 1 false):=vD yL Tryz.underlying35 dO rfl rfl rfl (by decide) rfl (by decide) h hm
theorem zHF:prog.info? 5=some Tryz.t5:=by kernel_rfl
theorem zOD{l m r:List U8}(h:yV 1 l m=some r)(hm:m.length≠0):Ob.ok prog (.app 410 410 (zF gK l) (zF gK m) (zF gK r) l.length m.length r.length 1 false):=vD X5 Tryz.underlying410 zHF rfl rfl rfl (by decide) rfl (by decide) h hm
theorem zHG:prog.info? 47=some Tryz.t47:=by kernel_rfl
theorem zNO{l m r:List zO}(h:yV 64 l m=some r)(hm:m.length≠0):Ob.ok prog (.app 45 45 (zF zR l) (zF zR m) (zF zR r) l.length m.length r.length 5 false):=vD pP Tryz.underlying45 zHG rfl rfl rfl (by decide) rfl (by decide) h hm
theorem zEu:prog.info? 116=some Tryz.t116:=by kernel_rfl
theorem zSC{l m r:List xC}(h:yV 104 l m=some r)(hm:m.length≠0):Ob.ok prog (.app 48 48 (zF yH l) (zF yH m) (zF yH r) l.length m.length r.length 8 false):=vD nS Tryz.underlying48 zEu rfl rfl rfl (by decide) rfl (by decide) h hm
theorem zHH:prog.info? 50=some Tryz.t50:=by kernel_rfl
theorem zSD{l m r:List wX}(h:yV 168 l m=some r)(hm:m.length≠0):Ob.ok prog (.app 60 60 (zF vT l) (zF vT m) (zF vT r) l.length m.length r.length 11 false):=vD pQ Tryz.underlying60 zHH rfl rfl rfl (by decide) rfl (by decide) h hm
theorem zAb{l m r:List wI}(h:yV 48 l m=some r)(hm:m.length≠0):Ob.ok prog (.app 78 78 (zF zJ l) (zF zJ m) (zF zJ r) l.length m.length r.length 4 false):=vD wH Tryz.underlying78 uZ rfl rfl rfl (by decide) rfl (by decide) h hm
theorem zKD:prog.info? 224=some Tryz.t224:=by kernel_rfl
theorem zSE{l m r:List zY}(h:yV 184 l m=some r)(hm:m.length≠0):Ob.ok prog (.app 79 79 (zF zV l) (zF zV m) (zF zV r) l.length m.length r.length 11 false):=vD jW Tryz.underlying79 zKD rfl rfl rfl (by decide) rfl (by decide) h hm
theorem zHI:prog.info? 98=some Tryz.t98:=by kernel_rfl
theorem zNP{l m r:List yK}(h:yV 32 l m=some r)(hm:m.length≠0):Ob.ok prog (.app 94 94 (zF yA l) (zF yA m) (zF yA r) l.length m.length r.length 3 false):=vD rI Tryz.underlying94 zHI rfl rfl rfl (by decide) rfl (by decide) h hm
theorem zHJ{l r:List U8}{bs:ByteArray}(h:yV 1 l (gbs bs)=some r)(hm:(gbs bs).length≠0):Ob.ok prog (.aps 410 9 (zF gK l) bs (zF gK r) l.length r.length 1 false):=zHh Tryz.underlying410 Tryz.underlying9 zHF rfl rfl rfl rfl h (by rwa[gV]at hm)
theorem zFb{l r:List U8}{bs:ByteArray}(h:yV 1 l (gbs bs)=some r)(hm:(gbs bs).length=0):Ob.ok prog (.aps 410 9 (zF gK l) bs (zF gK r) l.length r.length 1 true):=zHg Tryz.underlying410 Tryz.underlying9 zHF rfl rfl rfl rfl h (by rwa[gV]at hm)
theorem zSF{m r:List Tm}(h:yV 40 ([]:List Tm) m=some r)(hm:m.length≠0):Ob.ok prog (.mk (rY prog 31 31 (none) [] 0 none (zF zC m) m.length) (zF zC r) r.length):=D3 xM Tryz.underlying31 qC rfl rfl rfl (by decide) rfl (by decide) h hm
theorem zSG{m r:List Int}(h:yV 8 ([]:List Int) m=some r)(hm:m.length≠0):Ob.ok prog (.mk (rY prog 35 35 (none) [] 0 none (zF zS m) m.length) (zF zS r) r.length):=D3 yL Tryz.underlying35 dO rfl rfl rfl (by decide) rfl (by decide) h hm
theorem zSH{m r:List wI}(h:yV 48 ([]:List wI) m=some r)(hm:m.length≠0):Ob.ok prog (.mk (rY prog 78 78 (none) [] 0 none (zF zJ m) m.length) (zF zJ r) r.length):=D3 wH Tryz.underlying78 uZ rfl rfl rfl (by decide) rfl (by decide) h hm
theorem zSI{l:List wI}{o:Nat}{u:Unit}(h:gle l.length o=some u):Ob.ok prog (.clr 78 (zF zJ l).length (o*4) 4):=zVZ wH Tryz.underlying78 uZ rfl rfl (by rfl) h
theorem rA(l:List U8){o:uI}:pU prog 410 9 (.sl (zF gK l) l.length o)=some (at' (mS l)):=zHp Tryz.underlying410 Tryz.underlying9 Tryz.underlying5 l
theorem zOE:prog.info? 81=some Tryz.t81:=by kernel_rfl
theorem zSJ{l:List yF}{i:Int}{o:uI}{x:yF}(h:yG l i=some x):yX prog 126 (.sl (zF wM l) l.length o) (ai i)=some (.ip (uG x++zF wM (l.drop (i.toNat+1)))):=by
 have:=sC lX (k:=.i64) Tryz.underlying126 zOE rfl h (o:=o)
 rw[sF]at this
 exact this
theorem zEt{l:List (List (List Int))}{i:Int}{o:uI}{x:List (List Int)}(h:yG l i=some x):yX prog 129 (.sl (zF (yO (yO zS)) l) l.length o) (ai i)=some (.ip ((yO (yO zS)) x++zF (yO (yO zS)) (l.drop (i.toNat+1)))):=by
 have:=sC (xQ (xQ yL)) (k:=.i64) Tryz.underlying129 gW rfl h (o:=o)
 exact this
theorem lZ{l:List zK}{i:Int}{o:uI}{x:zK}(h:yG l i=some x):yX prog 184 (.sl (zF zI l) l.length o) (ai i)=some (.ip (qP x++zF zI (l.drop (i.toNat+1)))):=by
 have:=sC zG (k:=.i64) Tryz.underlying184 zEv rfl h (o:=o)
 rw[tI]at this
 exact this
theorem zSK:prog.info? 4=some Tryz.t4:=by kernel_rfl
theorem zSL{l:List Bool}{i:Int}{o:uI}{x:Bool}(h:yG l i=some x):yX prog 199 (.sl (zF boC l) l.length o) (ai i)=some (.ip (boC x++zF boC (l.drop (i.toNat+1)))):=by
 have:=sC zHf (k:=.i64) Tryz.underlying199 zSK rfl h (o:=o)
 exact this
theorem zNQ{l:List yY}{i:Int}{o:uI}{x:yY}(h:yG l i=some x):yX prog 217 (.sl (zF xI l) l.length o) (ai i)=some (.ip (xI x++zF xI (l.drop (i.toNat+1)))):=by
 have:=sC sT (k:=.i64) Tryz.underlying217 zEy rfl h (o:=o)
 exact this
theorem vF{l:List pN}{i:Int}{o:uI}{x:pN}(h:yG l i=some x):yX prog 22 (.sl (zF yE l) l.length o) (ai i)=some (.ip (yE x++zF yE (l.drop (i.toNat+1)))):=by
 have:=sC sP (k:=.i64) Tryz.underlying22 D8 rfl h (o:=o)
 exact this
theorem zSM{l:List wR}{i:Int}{o:uI}{x:wR}(h:yG l i=some x):yX prog 220 (.sl (zF yI l) l.length o) (ai i)=some (.ip (yI x++zF yI (l.drop (i.toNat+1)))):=by
 have:=sC uX (k:=.i64) Tryz.underlying220 Y0 rfl h (o:=o)
 exact this
theorem zOF:prog.info? 22=some Tryz.t22:=by kernel_rfl
theorem zNR{l:List (List pN)}{i:Int}{o:uI}{x:List pN}(h:yG l i=some x):yX prog 234 (.sl (zF (yO yE) l) l.length o) (ai i)=some (.ip ((yO yE) x++zF (yO yE) (l.drop (i.toNat+1)))):=by
 have:=sC (xQ sP) (k:=.i64) Tryz.underlying234 zOF rfl h (o:=o)
 exact this
theorem zKE{l:List ByteArray}{i:Int}{o:uI}{x:ByteArray}(h:yG l i=some x):yX prog 27 (.sl (zF xG l) l.length o) (ai i)=some (.ip (xG x++zF xG (l.drop (i.toNat+1)))):=by
 have:=sC yN (k:=.i64) Tryz.underlying27 U4 rfl h (o:=o)
 exact this
theorem zOG:prog.info? 24=some Tryz.t24:=by kernel_rfl
theorem zWz{l:List Int}{i:Int}{o:uI}{x:Int}(h:yG l i=some x):yX prog 28 (.sl (zF zS l) l.length o) (ai i)=some (.ip (zS x++zF zS (l.drop (i.toNat+1)))):=by
 have:=sC yL (k:=.i64) Tryz.underlying28 zOG rfl h (o:=o)
 exact this
theorem zSN{l:List (List Tm)}{i:Int}{o:uI}{x:List Tm}(h:yG l i=some x):yX prog 288 (.sl (zF (yO zC) l) l.length o) (ai i)=some (.ip ((yO zC) x++zF (yO zC) (l.drop (i.toNat+1)))):=by
 have:=sC (xQ xM) (k:=.i64) Tryz.underlying288 zHb rfl h (o:=o)
 exact this
theorem U5{l:List (List Int)}{i:Int}{o:uI}{x:List Int}(h:yG l i=some x):yX prog 292 (.sl (zF (yO zS) l) l.length o) (ai i)=some (.ip ((yO zS) x++zF (yO zS) (l.drop (i.toNat+1)))):=by
 have:=sC (xQ yL) (k:=.i64) Tryz.underlying292 zHE rfl h (o:=o)
 exact this
theorem wN{l:List Tm}{i:Int}{o:uI}{x:Tm}(h:yG l i=some x):yX prog 31 (.sl (zF zC l) l.length o) (ai i)=some (.ip (cK x++zF zC (l.drop (i.toNat+1)))):=by
 have:=sC xM (k:=.i64) Tryz.underlying31 qC rfl h (o:=o)
 rw[xU]at this
 exact this
theorem sU{l:List Int}{i:Int}{o:uI}{x:Int}(h:yG l i=some x):yX prog 35 (.sl (zF zS l) l.length o) (ai i)=some (.ip (zS x++zF zS (l.drop (i.toNat+1)))):=by
 have:=sC yL (k:=.i64) Tryz.underlying35 dO rfl h (o:=o)
 exact this
theorem eS{l:List zO}{i:Int}{o:uI}{x:zO}(h:yG l i=some x):yX prog 45 (.sl (zF zR l) l.length o) (ai i)=some (.ip (jD x++zF zR (l.drop (i.toNat+1)))):=by
 have:=sC pP (k:=.i64) Tryz.underlying45 zHG rfl h (o:=o)
 rw[vU]at this
 exact this
theorem R3{l:List xC}{i:Int}{o:uI}{x:xC}(h:yG l i=some x):yX prog 48 (.sl (zF yH l) l.length o) (ai i)=some (.ip (yH x++zF yH (l.drop (i.toNat+1)))):=by
 have:=sC nS (k:=.i64) Tryz.underlying48 zEu rfl h (o:=o)
 exact this
theorem zWy{l:List wX}{i:Int}{o:uI}{x:wX}(h:yG l i=some x):yX prog 60 (.sl (zF vT l) l.length o) (ai i)=some (.ip (vT x++zF vT (l.drop (i.toNat+1)))):=by
 have:=sC pQ (k:=.i64) Tryz.underlying60 zHH rfl h (o:=o)
 exact this
theorem gX{l:List wI}{i:Int}{o:uI}{x:wI}(h:yG l i=some x):yX prog 78 (.sl (zF zJ l) l.length o) (ai i)=some (.ip (zJ x++zF zJ (l.drop (i.toNat+1)))):=by
 have:=sC wH (k:=.i64) Tryz.underlying78 uZ rfl h (o:=o)
 exact this
theorem zWx{l:List yK}{i:Int}{o:uI}{x:yK}(h:yG l i=some x):yX prog 94 (.sl (zF yA l) l.length o) (ai i)=some (.ip (yA x++zF yA (l.drop (i.toNat+1)))):=by
 have:=sC rI (k:=.i64) Tryz.underlying94 zHI rfl h (o:=o)
 exact this
theorem zAa{l:List Int}{i x:Int}(h:yG l i=some x)(hl:l.length=9):sL prog 428 (.agg (zF zS l)) (ai i)=some (ai x):=b7 (k:=.i64) Tryz.underlying428 (q:=(false,1)) (by kernel_rfl) rfl hl h
theorem zHK{l:List Int}{i x:Int}(h:yG l i=some x)(hl:l.length=11):sL prog 496 (.agg (zF zS l)) (ai i)=some (ai x):=b7 (k:=.i64) Tryz.underlying496 (q:=(false,1)) (by kernel_rfl) rfl hl h
theorem zHL{l:List U8}{i x:Int}(h:yG l i=some x)(hl:l.length=3):sL prog 505 (.agg (zF gK l)) (ai i)=some (.val (.int .u8 x)):=zFf (k:=.i64) Tryz.underlying505 (q:=(false,1)) (by kernel_rfl) rfl hl h
theorem zHM{b n k c z:Nat}{i:Int}(h:uR n i=some k):yX prog 129 (.ms b 0 n c z) (ai i)=some (.mp b (k*1)):=lR Tryz.underlying129 gW rfl h
theorem zEs:prog.info? 332=some Tryz.t332:=by kernel_rfl
theorem zOH{b n k c z:Nat}{i:Int}(h:uR n i=some k):yX prog 252 (.ms b 0 n c z) (ai i)=some (.mp b (k*3)):=lR Tryz.underlying252 zEs rfl h
theorem zSO{b n k c z:Nat}{i:Int}(h:uR n i=some k):yX prog 27 (.ms b 0 n c z) (ai i)=some (.mp b (k*1)):=lR Tryz.underlying27 U4 rfl h
theorem U6{b n k c z:Nat}{i:Int}(h:uR n i=some k):yX prog 31 (.ms b 0 n c z) (ai i)=some (.mp b (k*3)):=lR Tryz.underlying31 qC rfl h
theorem U7{b n k c z:Nat}{i:Int}(h:uR n i=some k):yX prog 75 (.ms b 0 n c z) (ai i)=some (.mp b (k*1)):=lR Tryz.underlying75 zEx rfl h
theorem zSP{b n k c z:Nat}{i:Int}(h:uR n i=some k):yX prog 76 (.ms b 0 n c z) (ai i)=some (.mp b (k*1)):=lR Tryz.underlying76 zHa rfl h
theorem D9{b n k c z:Nat}{i:Int}(h:uR n i=some k):yX prog 77 (.ms b 0 n c z) (ai i)=some (.mp b (k*4)):=lR Tryz.underlying77 zEw rfl h
theorem zEr{b n k c z:Nat}{i:Int}(h:uR n i=some k):yX prog 78 (.ms b 0 n c z) (ai i)=some (.mp b (k*4)):=lR Tryz.underlying78 uZ rfl h
theorem zOI{b o n k c z:Nat}{i:Int}(h:uR n i=some k):yX prog 518 (.ms b (o*6) n c z) (ai i)=some (.mp b ((o+k)*6)):=zKe Tryz.underlying518 Y1 rfl h
theorem zHN{s:ByteArray}{i x:Int}(h:zAu s i=some x):sL prog 9 (at' s) (ai i)=some (.val (.int .u8 x)):=zHq Tryz.underlying9 h
theorem zAA(m:List (ByteArray×Int))(k:ByteArray):Ob.ok prog (.lk 152 (lQ m) (at' k) false (ai (cB m k))):=zSm Tryz.underlying152 Tryz.underlying9 dO rfl m k
theorem zHO(m:List (Int×Int))(k:Int):Ob.ok prog (.lk 273 (iL m) (ai k) true (.tup [ai (zHk m k),ab (zFg m k)])):=zOh Tryz.underlying273 Tryz.underlying3 dO rfl m k
theorem zHP(m:List (Int×Int)):Ob.ok prog (.ln 273 (iL m) (ai (m.length:Int))):=zOf Tryz.underlying273 m
theorem zOJ{n:Int}{l:List nH}(h:gmk 72 (default:nH) n=some l):Ob.ok prog (.mk (sY prog 252 (ai n) (ai n)) (zF pO l) l.length):=zNJ Tryz.underlying252 zEs rfl rfl rfl (by decide) rfl (by decide) (by rfl) h
theorem zNS(m:List (ByteArray×Int))(k:ByteArray)(v:Int):Ob.ok prog (.mu 152 (lQ m) (at' k) (ai v) (lQ (cC m k v))):=zSl Tryz.underlying152 Tryz.underlying9 m k v
theorem zOK(m:List (Int×Int))(k v:Int):Ob.ok prog (.mu 273 (iL m) (ai k) (ai v) (iL (D4 m k v))):=zOg Tryz.underlying273 Tryz.underlying3 m k v
theorem zSQ{l r:List Int}{a b:Int}(h:C4 l a b=some r):wT prog 35 (.sl (zF zS l) l.length .no) (some (ai a)) (some (ai b)) none=some (.sl (zF zS r) r.length .no):=zHu yL Tryz.underlying35 dO rfl h
theorem kA{l r:List Tm}{a:Int}(h:C4 l a l.length=some r):wT prog 31 (.sl (zF zC l) l.length .no) (some (ai a)) none none=some (.sl (zF zC r) r.length .no):=X6 xM Tryz.underlying31 qC rfl h
theorem zSR{b o n c:Nat}{x y:Int}{r:Nat×Nat}(h:nN c x y=some r):wT prog 78 (.ms b (o*4) n c 4) (some (ai x)) (some (ai y)) none=some (.ms b ((o+r.1)*4) r.2 (c-r.1) 4):=zOj Tryz.underlying78 uZ rfl (by decide) h
theorem zKF{b o n c:Nat}{x y:Int}{r:Nat×Nat}(h:nN n x y=some r):wT prog 78 (.ms b (o*4) n c 4) (some (ai x)) (some (ai y)) (some (ai (n:Int)))=some (.ms b ((o+r.1)*4) r.2 (n-r.1) 4):=zKd Tryz.underlying78 uZ rfl (by decide) h
theorem zCV{b o n c:Nat}{x:Int}{r:Nat×Nat}(h:nN n x n=some r):wT prog 518 (.ms b (o*6) n c 6) (some (ai x)) none none=some (.ms b ((o+r.1)*6) r.2 (c-r.1) 6):=D2 Tryz.underlying518 Y1 rfl (by decide) h
theorem zFa{b o n c:Nat}{x:Int}{r:Nat×Nat}(h:nN n x n=some r):wT prog 78 (.ms b (o*4) n c 4) (some (ai x)) none none=some (.ms b ((o+r.1)*4) r.2 (c-r.1) 4):=D2 Tryz.underlying78 uZ rfl (by decide) h
theorem zKG{b off n c:Nat}{y:Int}{r:Nat×Nat}(h:nN c 0 y=some r):wT prog 22 (.ms b off n c 15) none (some (ai y)) none=some (.ms b off r.2 c 15):=zAo Tryz.underlying22 D8 rfl (by decide) h
theorem zKH{b off n c:Nat}{y:Int}{r:Nat×Nat}(h:nN c 0 y=some r):wT prog 78 (.ms b off n c 4) none (some (ai y)) none=some (.ms b off r.2 c 4):=zAo Tryz.underlying78 uZ rfl (by decide) h
theorem zOL{l r:List Tm}{b:Int}(h:C4 l 0 b=some r):wT prog 31 (.sl (zF zC l) l.length .no) none (some (ai b)) none=some (.sl (zF zC r) r.length .no):=zCJ xM Tryz.underlying31 qC rfl h
theorem zHQ{l r:List ByteArray}{b:Int}{o:uI}(h:C4 l 0 b=some r):wT prog 27 (.sl (zF xG l) l.length o) none (some (ai b)) (some (ai b))=some (.sl (zF xG r) r.length .full):=dK yN Tryz.underlying27 U4 rfl h
theorem zAB{l r:List Tm}{b:Int}{o:uI}(h:C4 l 0 b=some r):wT prog 31 (.sl (zF zC l) l.length o) none (some (ai b)) (some (ai b))=some (.sl (zF zC r) r.length .full):=dK xM Tryz.underlying31 qC rfl h
theorem zKI{n:Int}{l:List pN}(hp:n>0)(h:gmk 192 (default:pN) n=some l):Ob.ok prog (.mk (B7 prog 22 3 (ai n)) (zF yE l) l.length):=zSh Tryz.underlying3 hp (zNJ Tryz.underlying22 D8 rfl rfl rfl (by decide) rfl (by decide) (by rfl) h)
def ptG:Nat->Nat->Func->Code
 |0,_,f=>wO f
 |k+1,n,f=>if n=0 then wO f else if n % 4=1 then gJ (ptG k (n / 4) f)else if n % 4=2 then uK (ptG k (n / 4) f)else xH (ptG k (n / 4) f)
abbrev pt:=ptG 99
abbrev Oz:=OL prog
abbrev dL:=Dl prog
abbrev fQ:=vC prog
abbrev nQ:=C3 prog
abbrev qB (q0:List pN) (m:Nat) (q3 q4:List Int):yW:=.cells [zH yE q0 .no,.mp m 0,zH zS q3 .no,zH zS q4 .no]
abbrev qR (q1:List pN) (q2:List nH):yW:=.cells [zH yE q1 .no,zH pO q2 .no]
theorem wS{os:List nF}{ob:List Ob}(q0 q1:List pN)(q2:List nH)(q3 q4:List Int)(k:Oz os ob):Oz os (.data (zF pO q2) :: .data (zF yE q1) :: .data (zF zS q4) :: .data (zF zS q3) :: .data (zF yE q0)::ob):=oD (dC q2)<|oD (dE q1)<|oD (dI q4)<|oD (dI q3)<|oD (dE q0) k
theorem tB{os:List nF}{ob:List Ob}(M:xR)(k:Oz os ob):Oz os (.data (zF pO M.parts) :: .data (zF yE M.rl) :: .data (zF zS M.own) :: .data (zF zS M.args) :: .data (zF yE M.l)::ob):=wS M.l M.rl M.parts M.args M.own k
theorem vY{n m:Nat}{q0 q1:List pN}{q2:List nH}{q3 q4:List Int}{l:List yW}(h:m<n)(k:∀X∈l,X.arg (fun i=>i<n)):∀X∈qB q0 m q3 q4::qR q1 q2::l,X.arg (fun i=>i<n):=zA ⟨⟨tv,dE _⟩,h,⟨tv,dI _⟩,⟨tv,dI _⟩,tv⟩ (zA ⟨⟨tv,dE _⟩,⟨tv,dC _⟩,tv⟩ k)
theorem vQ{n m:Nat}{q0 q1:List pN}{q2:List nH}{q3 q4:List Int}{l:List yW}(h:m<n)(k:∀X∈l,X.fine (fun i=>i<n)):∀X∈qB q0 m q3 q4::qR q1 q2::l,X.fine (fun i=>i<n):=zA ⟨dE _,h,dI _,dI _,tv⟩ (zA ⟨dE _,dC _,tv⟩ k)
abbrev zW:=List Tm
abbrev zU:=List Int
abbrev xN:=List wI
abbrev yD:=List pN
abbrev qD:=List wR
abbrev xS:=List nH
abbrev j0:=List wV
abbrev rB (a:List pN) (b c:Int) (d:ByteArray) (e:List yJ) (f g:Int) (h:ByteArray) (i:Int) (j:List zO) (k:List yJ) (l:List xC) (m n o p:AV) (q r s:Int):yW:=.cells [zH yE a .no,ai b,ai c,at' d,zH zN e .no,ai f,ai g,at' h,ai i,zH zR j .no,zH zN k .no,zH yH l .no,m,n,o,p,ai q,ai r,ai s]
abbrev rD (a:List pN) (d:wX) (m n o p:AV) (q r s:Int):yW:=rB a d.kind_ d.at_ d.name_ d.tele_ d.type_.kind_ d.type_.at_ d.type_.name_ d.type_.n_ d.type_.sub_ d.cons_ d.rows_ m n o p q r s
theorem qJ{os:List nF}{ob:List Ob}(a:List pN)(e:List yJ)(j:List zO)(k:List yJ)(l:List xC)(z:Oz os ob):Oz os (.data (zF yH l) :: .data (zF zN k) :: .data (zF zR j) :: .data (zF zN e) :: .data (zF yE a)::ob):=oD (yT l)<|oD (yC k)<|oD (zL j)<|oD (yC e)<|oD (dE a) z
def e20(c:Nat)(a b:Int):Option Tm:=
 some (Tm.mk a b [])
theorem c20{c a b r}(h:e20 c a b=some r):Ct 20 [] [ai a,ai b] (xF r) [] 0:=⟨by
 unfold e20 at h
 cases h
 exact tF ⟨func20,rfl⟩ 1 [] (oD (dT ([]:zW)) o0),⟨tv,tv,tv⟩,zB,⟨tv,tv,dT _,tv⟩,zB⟩
def eD(b:Nat)(a:Int):Option Tm:=
 e20 b 2 a>>=fun r1=>
 some r1
theorem dP{b a r}(h:eD b a=some r):Ct 10 [] [ai a] (xF r) [] 0:=⟨by
 unfold eD at h
 obtain⟨r1,h2,h⟩:=zD h
 obtain rfl:=sj h
 exact tF ⟨func10,rfl⟩ 1 [] (oD (dT r1.sub)<|oC 0 [] (c20 h2) o0),⟨tv,tv⟩,zB,⟨tv,tv,dT _,tv⟩,zB⟩
def e21(d:Nat)(c:Int)(a b:Tm):Option Tm:=
 some (Tm.mk c 0 [a,b])
theorem c21{d c a b r}(h:e21 d c a b=some r):Ct 21 [] [ai c,xF a,xF b] (xF r) [] 0:=⟨by
 unfold e21 at h
 cases h
 exact tF ⟨func21,rfl⟩ 1 [] (oD (dT [a,b])<|oS 2 (xL xU [a,b]) o0),⟨tv,⟨tv,tv,⟨tv,dT _⟩,tv⟩,⟨tv,tv,⟨tv,dT _⟩,tv⟩,tv⟩,zB,⟨tv,tv,dT _,tv⟩,zB⟩
def Y2:Nat->zW->Int->Int->Int->zW->Option Tm
 |0,_,_,_,_,_=>none
 |e+1,d,f,b,c,a=>
 if decide (f<(d.length:Int))then
 yG d f>>=fun x2=>
 e21 e 5 (Tm.mk b c a) x2>>=fun r4=>
 Y2 e d (xE (f+1)) r4.k r4.n r4.sub
 else
 some (Tm.mk b c a)
def e22(e:Nat)(g:Tm)(d:zW):Option Tm:=
 Y2 e d 0 g.k g.n g.sub
theorem zOM:∀e:Nat,(∀ {d f b c a r},Y2 e d f b c a=some r->(∀j,dL 0 (pt 949 f22) (sp j 19 0 [(1,zH zC d .no),(2,.mp 0 0),(4,.mp 1 0),(5,ai f)]) (⟨[(0,.cells [ai b,ai c,zH zC a .no]),(1,.cells [ai 0,ai 0,zH zC ([]:zW) .nl])],2,[],0,[]⟩) (fQ 0 (nQ 0 f22 (xF r) [] 0) [.blk 0,.seq (pt 15 f22)]))):=by
 intro e
 induction e with
 |zero=>
  exact fun h=>nn h
 |succ e ih=>
  intro d f b c a r h
  rw[Y2]at h
  obtain⟨h1,h⟩|⟨h1,h⟩:=xA h
  obtain⟨x2,h3,h⟩:=zD h
  obtain⟨r4,h5,h⟩:=zD h
  exact fun j=>lH 2 [] [0,1] [] [1,2,4,5] (oD (dT d)<|oD (dT ([]:zW))<|oD (dT r4.sub)<|oC 1 [] (c21 h5)<|oA 1 (wN (o:=.no) h3)<|oB 1 h1 o0) (ih h)
  cases h
  exact fun j=>lF 2 [] (oD (dT a)<|oB 1 h1 o0)
theorem c22{e g d r}(h:e22 e g d=some r):Ct 22 [] [xF g,zH zC d .no] (xF r) [] 0:=⟨by
 unfold e22 at h
 exact tH ⟨func22,rfl⟩ 0 [] [0,1] [] [1,2,4,5] (oD (dT d)<|oD (dT ([]:zW))<|oD (dT g.sub) o0) (zOM _ h),⟨⟨tv,tv,⟨tv,dT _⟩,tv⟩,⟨tv,dT _⟩,tv⟩,zB,⟨tv,tv,dT _,tv⟩,zB⟩
def e11(c:Nat)(a:Tm)(b:zW):Option Tm:=
 e22 c a b>>=fun r1=>
 some r1
theorem c11{c a b r}(h:e11 c a b=some r):Ct 11 [] [xF a,zH zC b .no] (xF r) [] 0:=⟨by
 unfold e11 at h
 obtain⟨r1,h2,h⟩:=zD h
 obtain rfl:=sj h
 exact tF ⟨func11,rfl⟩ 1 [] (oD (dT r1.sub)<|oC 1 [] (c22 h2) o0),⟨⟨tv,tv,⟨tv,dT _⟩,tv⟩,⟨tv,dT _⟩,tv⟩,zB,⟨tv,tv,dT _,tv⟩,zB⟩
def jL(b:Nat)(a:Int):Option Tm:=
 e20 b 1 a>>=fun r1=>
 some r1
theorem iO{b a r}(h:jL b a=some r):Ct 12 [] [ai a] (xF r) [] 0:=⟨by
 unfold jL at h
 obtain⟨r1,h2,h⟩:=zD h
 obtain rfl:=sj h
 exact tF ⟨func12,rfl⟩ 1 [] (oD (dT r1.sub)<|oC 0 [] (c20 h2) o0),⟨tv,tv⟩,zB,⟨tv,tv,dT _,tv⟩,zB⟩
def e13(c:Nat)(a b:Tm):Option Tm:=
 e21 c 4 a b>>=fun r1=>
 some r1
theorem c13{c a b r}(h:e13 c a b=some r):Ct 13 [] [xF a,xF b] (xF r) [] 0:=⟨by
 unfold e13 at h
 obtain⟨r1,h2,h⟩:=zD h
 obtain rfl:=sj h
 exact tF ⟨func13,rfl⟩ 1 [] (oD (dT r1.sub)<|oC 2 [] (c21 h2) o0),⟨⟨tv,tv,⟨tv,dT _⟩,tv⟩,⟨tv,tv,⟨tv,dT _⟩,tv⟩,tv⟩,zB,⟨tv,tv,dT _,tv⟩,zB⟩
def e23(d:Nat)(b c:Int)(a:zW):Option Tm:=
 some (Tm.mk b c a)
theorem c23{d b c a r}(h:e23 d b c a=some r):Ct 23 [] [ai b,ai c,zH zC a .no] (xF r) [] 0:=⟨by
 unfold e23 at h
 cases h
 exact tF ⟨func23,rfl⟩ 1 [] (oD (dT a) o0),⟨tv,tv,⟨tv,dT _⟩,tv⟩,zB,⟨tv,tv,dT _,tv⟩,zB⟩
def e14(a:Nat)(b c:Int):Option Tm:=
 eD a c>>=fun r1=>
 e23 a 7 b [r1]>>=fun r3=>
 some r3
theorem c14{a b c r}(h:e14 a b c=some r):Ct 14 [] [ai b,ai c] (xF r) [] 0:=⟨by
 unfold e14 at h
 obtain⟨r1,h2,h⟩:=zD h
 obtain⟨r3,h4,h⟩:=zD h
 obtain rfl:=sj h
 exact tF ⟨func14,rfl⟩ 1 [] (oD (dT r3.sub)<|oC 0 [] (c23 h4)<|oS 0 (xL xU [r1])<|oC 0 [] (dP h2) o0),⟨tv,tv,tv⟩,zB,⟨tv,tv,dT _,tv⟩,zB⟩
def e15(f:Nat)(b:ByteArray)(a:Tm)(c d e:Int):Option pN:=
 some (pN.mk 2 b a (Tm.mk 0 0 []) c d e 0 0 [] [])
theorem c15{f b a c d e r}(h:e15 f b a c d e=some r):Ct 15 [] [at' b,xF a,ai c,ai d,ai e] (zOm r) [] 0:=⟨by
 unfold e15 at h
 cases h
 exact tF ⟨func15,rfl⟩ 2 [] (oD (dI ([]:zU))<|oD (dI ([]:zU))<|oD (dT ([]:zW))<|oD (dT a.sub) o0),⟨tv,⟨tv,tv,⟨tv,dT _⟩,tv⟩,tv,tv,tv,tv⟩,zB,⟨tv,tv,tv,tv,dT _,tv,tv,dT _,tv,tv,tv,tv,tv,dI _,dI _,tv⟩,zB⟩
def e16(d:Nat)(b:ByteArray)(a:Tm)(c:Int):Option pN:=
 some (pN.mk 4 b a (Tm.mk 0 0 []) 14 c 2 0 0 [] [])
theorem c16{d b a c r}(h:e16 d b a c=some r):Ct 16 [] [at' b,xF a,ai c] (zOm r) [] 0:=⟨by
 unfold e16 at h
 cases h
 exact tF ⟨func16,rfl⟩ 2 [] (oD (dI ([]:zU))<|oD (dI ([]:zU))<|oD (dT ([]:zW))<|oD (dT a.sub) o0),⟨tv,⟨tv,tv,⟨tv,dT _⟩,tv⟩,tv,tv⟩,zB,⟨tv,tv,tv,tv,dT _,tv,tv,dT _,tv,tv,tv,tv,tv,dI _,dI _,tv⟩,zB⟩
def e7(b:Nat)(a:Int):Option Tm:=
 e20 b 6 a>>=fun r1=>
 some r1
theorem c7{b a r}(h:e7 b a=some r):Ct 7 [] [ai a] (xF r) [] 0:=⟨by
 unfold e7 at h
 obtain⟨r1,h2,h⟩:=zD h
 obtain rfl:=sj h
 exact tF ⟨func7,rfl⟩ 1 [] (oD (dT r1.sub)<|oC 0 [] (c20 h2) o0),⟨tv,tv⟩,zB,⟨tv,tv,dT _,tv⟩,zB⟩
def e8(f:Nat)(c:ByteArray)(a:Tm)(d e:Int)(b:zU):Option pN:=
 some (pN.mk 1 c a (Tm.mk 0 0 []) 0 0 d e 0 b [])
theorem c8{f c a d e b r}(h:e8 f c a d e b=some r):Ct 8 [] [at' c,xF a,ai d,ai e,zH zS b .no] (zOm r) [] 0:=⟨by
 unfold e8 at h
 cases h
 exact tF ⟨func8,rfl⟩ 2 [] (oD (dI ([]:zU))<|oD (dI b)<|oD (dT ([]:zW))<|oD (dT a.sub) o0),⟨tv,⟨tv,tv,⟨tv,dT _⟩,tv⟩,tv,tv,⟨tv,dI _⟩,tv⟩,zB,⟨tv,tv,tv,tv,dT _,tv,tv,dT _,tv,tv,tv,tv,tv,dI _,dI _,tv⟩,zB⟩
def e9(c:Nat)(a b:Tm):Option Tm:=
 e21 c 3 a b>>=fun r1=>
 some r1
theorem c9{c a b r}(h:e9 c a b=some r):Ct 9 [] [xF a,xF b] (xF r) [] 0:=⟨by
 unfold e9 at h
 obtain⟨r1,h2,h⟩:=zD h
 obtain rfl:=sj h
 exact tF ⟨func9,rfl⟩ 1 [] (oD (dT r1.sub)<|oC 2 [] (c21 h2) o0),⟨⟨tv,tv,⟨tv,dT _⟩,tv⟩,⟨tv,tv,⟨tv,dT _⟩,tv⟩,tv⟩,zB,⟨tv,tv,dT _,tv⟩,zB⟩
def e4(a:Nat)  : Option yD:=
 e7 a 0>>=fun r1=>
 eD a 0>>=fun r3=>
 eD a 0>>=fun r5=>
 eD a 0>>=fun r7=>
 e9 a r5 r7>>=fun r9=>
 e9 a r3 r9>>=fun r11=>
 e8 a (⟨#[80,97,105,114]⟩:ByteArray) r11 2 0 [15]>>=fun r13=>
 e7 a 14>>=fun r15=>
 jL a 1>>=fun r17=>
 jL a 0>>=fun r19=>
 e11 a r15 [r17,r19]>>=fun r21=>
 e14 a 0 0>>=fun r23=>
 e13 a r1 r1>>=fun r25=>
 jL a 0>>=fun r27=>
 e7 a 2>>=fun r29=>
 jL a 0>>=fun r31=>
 e11 a r29 [r31]>>=fun r33=>
 e13 a r1 r33>>=fun r35=>
 e13 a r1 r35>>=fun r37=>
 jL a 1>>=fun r39=>
 e11 a r23 [r25,r27,r37,r39]>>=fun r41=>
 e13 a r1 r41>>=fun r43=>
 e13 a r1 r43>>=fun r45=>
 eD a 0>>=fun r47=>
 e8 a (⟨#[78,97,116]⟩:ByteArray) r47 0 0 [1,2]>>=fun r49=>
 e15 a (⟨#[122,101,114,111]⟩:ByteArray) r1 0 0 0>>=fun r51=>
 e9 a r1 r1>>=fun r53=>
 e15 a (⟨#[115,117,99]⟩:ByteArray) r53 0 1 0>>=fun r55=>
 eD a 0>>=fun r57=>
 e8 a (⟨#[66,111,111,108]⟩:ByteArray) r57 0 0 [4,5]>>=fun r59=>
 e7 a 3>>=fun r61=>
 e15 a (⟨#[116,114,117,101]⟩:ByteArray) r61 3 0 0>>=fun r63=>
 e7 a 3>>=fun r65=>
 e15 a (⟨#[102,97,108,115,101]⟩:ByteArray) r65 3 1 0>>=fun r67=>
 eD a 0>>=fun r69=>
 eD a 0>>=fun r71=>
 e9 a r69 r71>>=fun r73=>
 e8 a (⟨#[76,105,115,116]⟩:ByteArray) r73 1 0 [7,8]>>=fun r75=>
 eD a 0>>=fun r77=>
 e7 a 6>>=fun r79=>
 jL a 0>>=fun r81=>
 e11 a r79 [r81]>>=fun r83=>
 e9 a r77 r83>>=fun r85=>
 e15 a (⟨#[110,105,108]⟩:ByteArray) r85 6 0 1>>=fun r87=>
 eD a 0>>=fun r89=>
 jL a 0>>=fun r91=>
 e7 a 6>>=fun r93=>
 jL a 1>>=fun r95=>
 e11 a r93 [r95]>>=fun r97=>
 e7 a 6>>=fun r99=>
 jL a 2>>=fun r101=>
 e11 a r99 [r101]>>=fun r103=>
 e9 a r97 r103>>=fun r105=>
 e9 a r91 r105>>=fun r107=>
 e9 a r89 r107>>=fun r109=>
 e15 a (⟨#[99,111,110,115]⟩:ByteArray) r109 6 1 1>>=fun r111=>
 eD a 0>>=fun r113=>
 eD a 0>>=fun r115=>
 e9 a r1 r115>>=fun r117=>
 e9 a r113 r117>>=fun r119=>
 e8 a (⟨#[86,101,99]⟩:ByteArray) r119 1 1 [10,11]>>=fun r121=>
 eD a 0>>=fun r123=>
 e7 a 9>>=fun r125=>
 jL a 0>>=fun r127=>
 e7 a 1>>=fun r129=>
 e11 a r125 [r127,r129]>>=fun r131=>
 e9 a r123 r131>>=fun r133=>
 e15 a (⟨#[118,110,105,108]⟩:ByteArray) r133 9 0 1>>=fun r135=>
 eD a 0>>=fun r137=>
 jL a 1>>=fun r139=>
 e7 a 9>>=fun r141=>
 jL a 2>>=fun r143=>
 jL a 1>>=fun r145=>
 e11 a r141 [r143,r145]>>=fun r147=>
 e7 a 9>>=fun r149=>
 jL a 3>>=fun r151=>
 e7 a 2>>=fun r153=>
 jL a 2>>=fun r155=>
 e11 a r153 [r155]>>=fun r157=>
 e11 a r149 [r151,r157]>>=fun r159=>
 e9 a r147 r159>>=fun r161=>
 e9 a r139 r161>>=fun r163=>
 e9 a r1 r163>>=fun r165=>
 e9 a r137 r165>>=fun r167=>
 e15 a (⟨#[118,99,111,110,115]⟩:ByteArray) r167 9 1 1>>=fun r169=>
 eD a 0>>=fun r171=>
 jL a 0>>=fun r173=>
 jL a 1>>=fun r175=>
 eD a 0>>=fun r177=>
 e9 a r175 r177>>=fun r179=>
 e9 a r173 r179>>=fun r181=>
 e9 a r171 r181>>=fun r183=>
 e8 a (⟨#[69,113]⟩:ByteArray) r183 2 1 [13]>>=fun r185=>
 eD a 0>>=fun r187=>
 jL a 0>>=fun r189=>
 e7 a 12>>=fun r191=>
 jL a 1>>=fun r193=>
 jL a 0>>=fun r195=>
 jL a 0>>=fun r197=>
 e11 a r191 [r193,r195,r197]>>=fun r199=>
 e9 a r189 r199>>=fun r201=>
 e9 a r187 r201>>=fun r203=>
 e15 a (⟨#[114,101,102,108]⟩:ByteArray) r203 12 0 2>>=fun r205=>
 eD a 0>>=fun r207=>
 eD a 0>>=fun r209=>
 jL a 1>>=fun r211=>
 jL a 1>>=fun r213=>
 e7 a 14>>=fun r215=>
 jL a 3>>=fun r217=>
 jL a 2>>=fun r219=>
 e11 a r215 [r217,r219]>>=fun r221=>
 e9 a r213 r221>>=fun r223=>
 e9 a r211 r223>>=fun r225=>
 e9 a r209 r225>>=fun r227=>
 e9 a r207 r227>>=fun r229=>
 e15 a (⟨#[112,97,105,114]⟩:ByteArray) r229 14 0 2>>=fun r231=>
 eD a 0>>=fun r233=>
 eD a 0>>=fun r235=>
 jL a 2>>=fun r237=>
 e9 a r21 r237>>=fun r239=>
 e9 a r235 r239>>=fun r241=>
 e9 a r233 r241>>=fun r243=>
 e16 a (⟨#[102,115,116]⟩:ByteArray) r243 0>>=fun r245=>
 eD a 0>>=fun r247=>
 eD a 0>>=fun r249=>
 jL a 1>>=fun r251=>
 e9 a r21 r251>>=fun r253=>
 e9 a r249 r253>>=fun r255=>
 e9 a r247 r255>>=fun r257=>
 e16 a (⟨#[115,110,100]⟩:ByteArray) r257 1>>=fun r259=>
 eD a 0>>=fun r261=>
 e8 a (⟨#[84,114,101,101]⟩:ByteArray) r261 0 0 [19,20]>>=fun r263=>
 e7 a 18>>=fun r265=>
 e15 a (⟨#[108,101,97,102]⟩:ByteArray) r265 18 0 0>>=fun r267=>
 e7 a 18>>=fun r269=>
 e9 a r1 r269>>=fun r271=>
 e7 a 18>>=fun r273=>
 e9 a r271 r273>>=fun r275=>
 e15 a (⟨#[110,111,100,101]⟩:ByteArray) r275 18 1 0>>=fun r277=>
 e9 a r1 r1>>=fun r279=>
 e9 a r1 r279>>=fun r281=>
 eD a 0>>=fun r283=>
 jL a 0>>=fun r285=>
 jL a 1>>=fun r287=>
 e9 a r285 r287>>=fun r289=>
 e9 a r283 r289>>=fun r291=>
 eD a 0>>=fun r293=>
 jL a 0>>=fun r295=>
 jL a 0>>=fun r297=>
 e13 a r295 r297>>=fun r299=>
 e13 a r293 r299>>=fun r301=>
 some [r49,r51,r55,r59,r63,r67,r75,r87,r111,r121,r135,r169,r185,r205,(pN.mk r13.kind r13.name r13.type r13.body r13.fam r13.place r13.pars r13.inds r13.level r13.cons [16,17]),r231,r245,r259,r263,r267,r277,(pN.mk 3 (⟨#[112,108,117,115]⟩:ByteArray) r281 r45 0 0 0 0 0 [] []),(pN.mk 3 (⟨#[105,100]⟩:ByteArray) r291 r301 0 0 0 0 0 [] [])]
theorem c4{a r}(h:e4 a  = some r):Ct 4 [] [] (.sl (zF yE r) r.length .no) [] 0:=⟨by
 unfold e4 at h
 obtain⟨r1,h2,h⟩:=zD h
 obtain⟨r3,h4,h⟩:=zD h
 obtain⟨r5,h6,h⟩:=zD h
 obtain⟨r7,h8,h⟩:=zD h
 obtain⟨r9,h10,h⟩:=zD h
 obtain⟨r11,h12,h⟩:=zD h
 obtain⟨r13,h14,h⟩:=zD h
 obtain⟨r15,h16,h⟩:=zD h
 obtain⟨r17,h18,h⟩:=zD h
 obtain⟨r19,h20,h⟩:=zD h
 obtain⟨r21,h22,h⟩:=zD h
 obtain⟨r23,h24,h⟩:=zD h
 obtain⟨r25,h26,h⟩:=zD h
 obtain⟨r27,h28,h⟩:=zD h
 obtain⟨r29,h30,h⟩:=zD h
 obtain⟨r31,h32,h⟩:=zD h
 obtain⟨r33,h34,h⟩:=zD h
 obtain⟨r35,h36,h⟩:=zD h
 obtain⟨r37,h38,h⟩:=zD h
 obtain⟨r39,h40,h⟩:=zD h
 obtain⟨r41,h42,h⟩:=zD h
 obtain⟨r43,h44,h⟩:=zD h
 obtain⟨r45,h46,h⟩:=zD h
 obtain⟨r47,h48,h⟩:=zD h
 obtain⟨r49,h50,h⟩:=zD h
 obtain⟨r51,h52,h⟩:=zD h
 obtain⟨r53,h54,h⟩:=zD h
 obtain⟨r55,h56,h⟩:=zD h
 obtain⟨r57,h58,h⟩:=zD h
 obtain⟨r59,h60,h⟩:=zD h
 obtain⟨r61,h62,h⟩:=zD h
 obtain⟨r63,h64,h⟩:=zD h
 obtain⟨r65,h66,h⟩:=zD h
 obtain⟨r67,h68,h⟩:=zD h
 obtain⟨r69,h70,h⟩:=zD h
 obtain⟨r71,h72,h⟩:=zD h
 obtain⟨r73,h74,h⟩:=zD h
 obtain⟨r75,h76,h⟩:=zD h
 obtain⟨r77,h78,h⟩:=zD h
 obtain⟨r79,h80,h⟩:=zD h
 obtain⟨r81,h82,h⟩:=zD h
 obtain⟨r83,h84,h⟩:=zD h
 obtain⟨r85,h86,h⟩:=zD h
 obtain⟨r87,h88,h⟩:=zD h
 obtain⟨r89,h90,h⟩:=zD h
 obtain⟨r91,h92,h⟩:=zD h
 obtain⟨r93,h94,h⟩:=zD h
 obtain⟨r95,h96,h⟩:=zD h
 obtain⟨r97,h98,h⟩:=zD h
 obtain⟨r99,h100,h⟩:=zD h
 obtain⟨r101,h102,h⟩:=zD h
 obtain⟨r103,h104,h⟩:=zD h
 obtain⟨r105,h106,h⟩:=zD h
 obtain⟨r107,h108,h⟩:=zD h
 obtain⟨r109,h110,h⟩:=zD h
 obtain⟨r111,h112,h⟩:=zD h
 obtain⟨r113,h114,h⟩:=zD h
 obtain⟨r115,h116,h⟩:=zD h
 obtain⟨r117,h118,h⟩:=zD h
 obtain⟨r119,h120,h⟩:=zD h
 obtain⟨r121,h122,h⟩:=zD h
 obtain⟨r123,h124,h⟩:=zD h
 obtain⟨r125,h126,h⟩:=zD h
 obtain⟨r127,h128,h⟩:=zD h
 obtain⟨r129,h130,h⟩:=zD h
 obtain⟨r131,h132,h⟩:=zD h
 obtain⟨r133,h134,h⟩:=zD h
 obtain⟨r135,h136,h⟩:=zD h
 obtain⟨r137,h138,h⟩:=zD h
 obtain⟨r139,h140,h⟩:=zD h
 obtain⟨r141,h142,h⟩:=zD h
 obtain⟨r143,h144,h⟩:=zD h
 obtain⟨r145,h146,h⟩:=zD h
 obtain⟨r147,h148,h⟩:=zD h
 obtain⟨r149,h150,h⟩:=zD h
 obtain⟨r151,h152,h⟩:=zD h
 obtain⟨r153,h154,h⟩:=zD h
 obtain⟨r155,h156,h⟩:=zD h
 obtain⟨r157,h158,h⟩:=zD h
 obtain⟨r159,h160,h⟩:=zD h
 obtain⟨r161,h162,h⟩:=zD h
 obtain⟨r163,h164,h⟩:=zD h
 obtain⟨r165,h166,h⟩:=zD h
 obtain⟨r167,h168,h⟩:=zD h
 obtain⟨r169,h170,h⟩:=zD h
 obtain⟨r171,h172,h⟩:=zD h
 obtain⟨r173,h174,h⟩:=zD h
 obtain⟨r175,h176,h⟩:=zD h
 obtain⟨r177,h178,h⟩:=zD h
 obtain⟨r179,h180,h⟩:=zD h
 obtain⟨r181,h182,h⟩:=zD h
 obtain⟨r183,h184,h⟩:=zD h
 obtain⟨r185,h186,h⟩:=zD h
 obtain⟨r187,h188,h⟩:=zD h
 obtain⟨r189,h190,h⟩:=zD h
 obtain⟨r191,h192,h⟩:=zD h
 obtain⟨r193,h194,h⟩:=zD h
 obtain⟨r195,h196,h⟩:=zD h
 obtain⟨r197,h198,h⟩:=zD h
 obtain⟨r199,h200,h⟩:=zD h
 obtain⟨r201,h202,h⟩:=zD h
 obtain⟨r203,h204,h⟩:=zD h
 obtain⟨r205,h206,h⟩:=zD h
 obtain⟨r207,h208,h⟩:=zD h
 obtain⟨r209,h210,h⟩:=zD h
 obtain⟨r211,h212,h⟩:=zD h
 obtain⟨r213,h214,h⟩:=zD h
 obtain⟨r215,h216,h⟩:=zD h
 obtain⟨r217,h218,h⟩:=zD h
 obtain⟨r219,h220,h⟩:=zD h
 obtain⟨r221,h222,h⟩:=zD h
 obtain⟨r223,h224,h⟩:=zD h
 obtain⟨r225,h226,h⟩:=zD h
 obtain⟨r227,h228,h⟩:=zD h
 obtain⟨r229,h230,h⟩:=zD h
 obtain⟨r231,h232,h⟩:=zD h
 obtain⟨r233,h234,h⟩:=zD h
 obtain⟨r235,h236,h⟩:=zD h
 obtain⟨r237,h238,h⟩:=zD h
 obtain⟨r239,h240,h⟩:=zD h
 obtain⟨r241,h242,h⟩:=zD h
 obtain⟨r243,h244,h⟩:=zD h
 obtain⟨r245,h246,h⟩:=zD h
 obtain⟨r247,h248,h⟩:=zD h
 obtain⟨r249,h250,h⟩:=zD h
 obtain⟨r251,h252,h⟩:=zD h
 obtain⟨r253,h254,h⟩:=zD h
 obtain⟨r255,h256,h⟩:=zD h
 obtain⟨r257,h258,h⟩:=zD h
 obtain⟨r259,h260,h⟩:=zD h
 obtain⟨r261,h262,h⟩:=zD h
 obtain⟨r263,h264,h⟩:=zD h
 obtain⟨r265,h266,h⟩:=zD h
 obtain⟨r267,h268,h⟩:=zD h
 obtain⟨r269,h270,h⟩:=zD h
 obtain⟨r271,h272,h⟩:=zD h
 obtain⟨r273,h274,h⟩:=zD h
 obtain⟨r275,h276,h⟩:=zD h
 obtain⟨r277,h278,h⟩:=zD h
 obtain⟨r279,h280,h⟩:=zD h
 obtain⟨r281,h282,h⟩:=zD h
 obtain⟨r283,h284,h⟩:=zD h
 obtain⟨r285,h286,h⟩:=zD h
 obtain⟨r287,h288,h⟩:=zD h
 obtain⟨r289,h290,h⟩:=zD h
 obtain⟨r291,h292,h⟩:=zD h
 obtain⟨r293,h294,h⟩:=zD h
 obtain⟨r295,h296,h⟩:=zD h
 obtain⟨r297,h298,h⟩:=zD h
 obtain⟨r299,h300,h⟩:=zD h
 obtain⟨r301,h302,h⟩:=zD h
 cases h
 exact tF ⟨func4,rfl⟩ 1 [] (oD (dE [r49,r51,r55,r59,r63,r67,r75,r87,r111,r121,r135,r169,r185,r205,(pN.mk r13.kind r13.name r13.type r13.body r13.fam r13.place r13.pars r13.inds r13.level r13.cons [16,17]),r231,r245,r259,r263,r267,r277,(pN.mk 3 (⟨#[112,108,117,115]⟩:ByteArray) r281 r45 0 0 0 0 0 [] []),(pN.mk 3 (⟨#[105,100]⟩:ByteArray) r291 r301 0 0 0 0 0 [] [])])<|oC 0 [] (c13 h302)<|oC 0 [] (c13 h300)<|oC 0 [] (iO h298)<|oC 0 [] (iO h296)<|oC 0 [] (dP h294)<|oC 0 [] (c9 h292)<|oC 0 [] (c9 h290)<|oC 0 [] (iO h288)<|oC 0 [] (iO h286)<|oC 1 [] (dP h284)<|oC 0 [] (c9 h282)<|oC 3 [] (c9 h280)<|oC 0 [] (c15 h278)<|oC 0 [] (c9 h276)<|oC 0 [] (c7 h274)<|oC 0 [] (c9 h272)<|oC 1 [] (c7 h270)<|oC 0 [] (c15 h268)<|oC 0 [] (c7 h266)<|oC 1 [] (c8 h264)<|oC 0 [] (dP h262)<|oC 0 [] (c16 h260)<|oC 0 [] (c9 h258)<|oC 0 [] (c9 h256)<|oC 0 [] (c9 h254)<|oC 1 [] (iO h252)<|oC 0 [] (dP h250)<|oC 0 [] (dP h248)<|oC 0 [] (c16 h246)<|oC 0 [] (c9 h244)<|oC 0 [] (c9 h242)<|oC 0 [] (c9 h240)<|oC 1 [] (iO h238)<|oC 0 [] (dP h236)<|oC 0 [] (dP h234)<|oC 0 [] (c15 h232)<|oC 0 [] (c9 h230)<|oC 0 [] (c9 h228)<|oC 0 [] (c9 h226)<|oC 0 [] (c9 h224)<|oC 0 [] (c11 h222)<|oS 0 (xL xU [r217,r219])<|oC 0 [] (iO h220)<|oC 0 [] (iO h218)<|oC 0 [] (c7 h216)<|oC 0 [] (iO h214)<|oC 0 [] (iO h212)<|oC 0 [] (dP h210)<|oC 1 [] (dP h208)<|oC 0 [] (c15 h206)<|oC 0 [] (c9 h204)<|oC 0 [] (c9 h202)<|oC 0 [] (c11 h200)<|oS 0 (xL xU [r193,r195,r197])<|oC 0 [] (iO h198)<|oC 0 [] (iO h196)<|oC 0 [] (iO h194)<|oC 0 [] (c7 h192)<|oC 0 [] (iO h190)<|oC 0 [] (dP h188)<|oC 1 [] (c8 h186)<|oC 0 [] (c9 h184)<|oC 0 [] (c9 h182)<|oC 0 [] (c9 h180)<|oC 0 [] (dP h178)<|oC 0 [] (iO h176)<|oC 0 [] (iO h174)<|oC 0 [] (dP h172)<|oC 0 [] (c15 h170)<|oC 0 [] (c9 h168)<|oC 0 [] (c9 h166)<|oC 0 [] (c9 h164)<|oC 0 [] (c9 h162)<|oC 0 [] (c11 h160)<|oS 0 (xL xU [r151,r157])<|oC 0 [] (c11 h158)<|oS 0 (xL xU [r155])<|oC 0 [] (iO h156)<|oC 0 [] (c7 h154)<|oC 0 [] (iO h152)<|oC 0 [] (c7 h150)<|oC 0 [] (c11 h148)<|oS 0 (xL xU [r143,r145])<|oC 0 [] (iO h146)<|oC 0 [] (iO h144)<|oC 0 [] (c7 h142)<|oC 1 [] (iO h140)<|oC 0 [] (dP h138)<|oC 0 [] (c15 h136)<|oC 0 [] (c9 h134)<|oC 0 [] (c11 h132)<|oS 0 (xL xU [r127,r129])<|oC 0 [] (c7 h130)<|oC 0 [] (iO h128)<|oC 0 [] (c7 h126)<|oC 0 [] (dP h124)<|oC 1 [] (c8 h122)<|oC 0 [] (c9 h120)<|oC 0 [] (c9 h118)<|oC 1 [] (dP h116)<|oC 0 [] (dP h114)<|oC 0 [] (c15 h112)<|oC 0 [] (c9 h110)<|oC 0 [] (c9 h108)<|oC 0 [] (c9 h106)<|oC 0 [] (c11 h104)<|oS 0 (xL xU [r101])<|oC 0 [] (iO h102)<|oC 0 [] (c7 h100)<|oC 0 [] (c11 h98)<|oS 0 (xL xU [r95])<|oC 0 [] (iO h96)<|oC 0 [] (c7 h94)<|oC 0 [] (iO h92)<|oC 0 [] (dP h90)<|oC 0 [] (c15 h88)<|oC 0 [] (c9 h86)<|oC 0 [] (c11 h84)<|oS 0 (xL xU [r81])<|oC 0 [] (iO h82)<|oC 0 [] (c7 h80)<|oC 0 [] (dP h78)<|oC 1 [] (c8 h76)<|oC 0 [] (c9 h74)<|oC 0 [] (dP h72)<|oC 0 [] (dP h70)<|oC 0 [] (c15 h68)<|oC 0 [] (c7 h66)<|oC 0 [] (c15 h64)<|oC 0 [] (c7 h62)<|oC 1 [] (c8 h60)<|oC 0 [] (dP h58)<|oC 0 [] (c15 h56)<|oC 2 [] (c9 h54)<|oC 1 [] (c15 h52)<|oC 1 [] (c8 h50)<|oC 1 [] (dP h48)<|oC 0 [] (c13 h46)<|oC 0 [] (c13 h44)<|oC 0 [] (c11 h42)<|oS 0 (xL xU [r25,r27,r37,r39])<|oC 0 [] (iO h40)<|oC 0 [] (c13 h38)<|oC 0 [] (c13 h36)<|oC 0 [] (c11 h34)<|oS 0 (xL xU [r31])<|oC 0 [] (iO h32)<|oC 2 [] (c7 h30)<|oC 0 [] (iO h28)<|oC 2 [] (c13 h26)<|oC 3 [] (c14 h24)<|oC 0 [] (c11 h22)<|oS 0 (xL xU [r17,r19])<|oC 0 [] (iO h20)<|oC 0 [] (iO h18)<|oC 3 [] (c7 h16)<|oC 1 [] (c8 h14)<|oC 0 [] (c9 h12)<|oC 0 [] (c9 h10)<|oC 0 [] (dP h8)<|oC 0 [] (dP h6)<|oC 1 [] (dP h4)<|oC 0 [] (c7 h2) o0),tv,zB,dE _,zB⟩
def zHR(b:Nat)(a:Int):Option Bool:=
 if decide (a≥0)then
 if decide (a≤1114111)then
 if decide (a<55296)then
 some true
 else
 none
 else
 none
 else
 none
theorem zOO{b a r}(h:zHR b a=some r):Ct 220 [] [ai a] (ab r) [] 0:=⟨by
 unfold zHR at h
 obtain⟨h1,h⟩:=xD h
 have k:=oB 0 h1 o0
 obtain⟨h2,h⟩:=xD h
 have k:=oB 0 h2 k
 obtain⟨h3,h⟩:=xD h
 cases h
 exact tF ⟨func220,rfl⟩ 0 [] (oB 0 h3 k),⟨tv,tv⟩,zB,tv,zB⟩
def zOP(b:Nat)(a:U8):Option (Int×Int):=
 if decide (a<128)then
 some (1,(xE (a)))
 else
 none
theorem zWr{b a r}(h:zOP b a=some r):Ct 307 [] [.val (.int .u8 a)] (.tup [ai r.1,ai r.2]) [] 0:=⟨by
 unfold zOP at h
 obtain⟨h1,h⟩:=xD h
 cases h
 exact tF ⟨func307,rfl⟩ 1 [] (oB 0 h1 o0),⟨tv,tv⟩,zB,⟨tv,tv,tv⟩,zB⟩
def zKK(b:Nat)(a:Int):Option Int:=
 if decide (a≥65536)then
 none
 else
 if decide (a≥2048)then
 none
 else
 if decide (a≥128)then
 none
 else
 some 1
theorem zSU{b a r}(h:zKK b a=some r):Ct 308 [] [ai a] (ai r) [] 0:=⟨by
 unfold zKK at h
 obtain⟨h1,h⟩:=zT h
 have k:=oB 0 h1 o0
 obtain⟨h2,h⟩:=zT h
 have k:=oB 0 h2 k
 obtain⟨h3,h⟩:=zT h
 cases h
 exact tF ⟨func308,rfl⟩ 0 [] (oB 0 h3 k),⟨tv,tv⟩,zB,tv,zB⟩
def Y3(c:Nat)(b:ByteArray)(a:Int)(r5:Int×Int)(d e:Int):Option (Int×Int×Int):=
 if decide (e<r5.1)then
 none
 else
 zHR c d>>=fun r13=>
 if r13 then
 zKK c d>>=fun r16=>
 if r16 != r5.1 then
 none
 else
 some (d,r5.1,0)
 else
 none
def zOQ(c:Nat)(b:ByteArray)(a:Int):Option (Int×Int×Int):=
 if decide (a<0)then
 none
 else
 if decide (a≥(b.size:Int))then
 none
 else
 zAu b a>>=fun x3=>
 zOP c x3>>=fun r5=>
 if r5.1==0 then
 none
 else
 if decide (r5.1>(xE ((b.size:Int)-a)))then
 none
 else
 Y3 c b a r5 r5.2 1
theorem zKL{c b a r5 d e r}(h:Y3 c b a r5 d e=some r):(∀j,dL 0 (pt 65461 f203) (sp j 66 0 [(0,at' b),(1,ai a),(7,ai r5.1),(8,ai d),(9,ai e)]) (⟨[],0,[],0,[]⟩) (fQ 0 (nQ 0 f203 (.tup [ai r.1,ai r.2.1,ai r.2.2]) [] 0) [.blk 0,.seq (pt 1023 f203)])):=by
 unfold Y3 at h
 obtain⟨h9,h⟩:=zT h
 obtain⟨r13,h14,h⟩:=zD h
 have k:=oB 0 h9 o0
 obtain⟨h15,h⟩:=xD h
 obtain⟨r16,h17,h⟩:=zD h
 have k:=oC 1 [] (zSU h17)<|oK 0 [] h15 (zOO h14) k
 obtain⟨h18,h⟩:=zT h
 cases h
 exact fun j=>lF 0 [] (oB 0 h18 k)
theorem zWq{c b a r}(h:zOQ c b a=some r):Ct 203 [] [at' b,ai a] (.tup [ai r.1,ai r.2.1,ai r.2.2]) [] 0:=⟨by
 unfold zOQ at h
 obtain⟨h1,h⟩:=zT h
 have k:=oB 0 h1 o0
 obtain⟨h2,h⟩:=zT h
 obtain⟨x3,h4,h⟩:=zD h
 obtain⟨r5,h6,h⟩:=zD h
 have k:=oC 0 [] (zWr h6)<|oA 0 (zHN h4)<|oB 1 h2 k
 obtain⟨h7,h⟩:=zT h
 have k:=oB 2 h7 k
 obtain⟨h8,h⟩:=zT h
 exact tH ⟨func203,rfl⟩ 0 [] [] [] [0,1,7,8,9] (oB 2 h8 k) (zKL h),⟨tv,tv,tv⟩,zB,⟨tv,tv,tv,tv⟩,zB⟩
def cM:Nat->ByteArray->zU->Int->Option (zU×Int×Int)
 |0,_,_,_=>none
 |b+1,a,c,d=>
 if decide (d<(a.size:Int))then
 zOQ b a d>>=fun r3=>
 if r3.2.2 != 0 then
 none
 else
 yV 8 c [r3.1]>>=fun l6=>
 cM b a l6 (xE (d+r3.2.1))
 else
 some (c,(a.size:Int),0)
def zKM(b:Nat)(a:ByteArray):Option (zU×Int×Int):=
 if decide ((a.size:Int)>65535)then
 none
 else
 cM b a [] 0
theorem zKN:∀b:Nat,(∀ {a c d r},cM b a c d=some r->(∀j,dL 0 (pt 16309 f128) (sp j 38 0 [(0,at' a),(5,zH zS c (.st 0 1)),(6,ai d)]) (⟨[],0,[0],1,[]⟩) (fQ 0 (nQ 0 f128 (.tup [.sl (zF zS r.1) r.1.length .no,ai r.2.1,ai r.2.2]) [] 0) [.blk 0,.seq (pt 255 f128)]))):=by
 intro b
 induction b with
 |zero=>
  exact fun h=>nn h
 |succ b ih=>
  intro a c d r h
  rw[cM]at h
  obtain⟨h2,h⟩|⟨h2,h⟩:=xA h
  obtain⟨r3,h4,h⟩:=zD h
  have k:=oC 0 [] (zWq h4)<|oB 1 h2 o0
  obtain⟨h5,h⟩:=zT h
  obtain⟨l6,h7,h⟩:=zD h
  exact fun j=>lH 1 [] [] [1] [0,5,6] (oD (dI l6)<|oP 1 (sG h7 (by simp))<|oB 3 h5 k) (ih h)
  cases h
  exact fun j=>lF 1 [] (oD (dI c)<|oB 1 h2 o0)
theorem zSV{b a r}(h:zKM b a=some r):Ct 128 [] [at' a] (.tup [.sl (zF zS r.1) r.1.length .no,ai r.2.1,ai r.2.2]) [] 0:=⟨by
 unfold zKM at h
 obtain⟨h1,h⟩:=zT h
 exact tH ⟨func128,rfl⟩ 0 [(none,5,1)] [] [0] [0,5,6] (oD (dI ([]:zU))<|oB 1 h1 o0) (zKN _ h),⟨tv,tv⟩,zB,⟨dI _,tv,tv,tv⟩,zB⟩
def zKO(b:Nat)(a:Int):Option (ByteArray×Int):=
 zHR b a>>=fun r1=>
 if r1 then
 zKK b a>>=fun r4=>
 if r4==1 then
 some ((mS [(IntKind.u8.wrap (a))]),0)
 else
 none
 else
 none
theorem zSW{b a r}(h:zKO b a=some r):Ct 204 [] [ai a] (.tup [at' r.1,ai r.2]) [] 0:=⟨by
 unfold zKO at h
 obtain⟨r1,h2,h⟩:=zD h
 obtain⟨h3,h⟩:=xD h
 obtain⟨r4,h5,h⟩:=zD h
 have k:=oC 1 [] (zSU h5)<|oK 0 [] h3 (zOO h2) o0
 obtain⟨h6,h⟩:=xD h
 cases h
 exact tF ⟨func204,rfl⟩ 0 [] (oA 2 (rA [(IntKind.u8.wrap (a))] (o:=.full))<|oB 0 h6 k),⟨tv,tv⟩,zB,⟨tv,tv,tv⟩,zB⟩
def cN:Nat->zU->Int->zU->Int->Option zU
 |0,_,_,_,_=>none
 |c+1,a,b,d,e=>
 if decide (b<(a.length:Int))then
 yG a b>>=fun x2=>
 yV 8 d [e]>>=fun l4=>
 zKO c x2>>=fun r6=>
 cN c a (xE (b+1)) l4 (xE (e+(r6.1.size:Int)))
 else
 some d
def zOR(c:Nat)(a:zU):Option zU:=
 cN c a 0 [] 0
theorem zKP:∀c:Nat,(∀ {a b d e r},cN c a b d e=some r->(∀j,dL 0 (pt 16309 f129) (sp j 30 0 [(3,zH zS d (.st 0 1)),(4,ai e),(9,zH zS a .no),(10,ai (a.length:Int)),(11,ai b)]) (⟨[],0,[0],1,[]⟩) (fQ 0 (nQ 0 f129 (.sl (zF zS r) r.length .no) [] 0) [.blk 0,.seq (pt 255 f129)]))):=by
 intro c
 induction c with
 |zero=>
  exact fun h=>nn h
 |succ c ih=>
  intro a b d e r h
  rw[cN]at h
  obtain⟨h1,h⟩|⟨h1,h⟩:=xA h
  obtain⟨x2,h3,h⟩:=zD h
  obtain⟨l4,h5,h⟩:=zD h
  obtain⟨r6,h7,h⟩:=zD h
  exact fun j=>lH 5 [] [] [1] [3,4,9,10,11] (oD (dI a)<|oD (dI l4)<|oC 0 [] (zSW h7)<|oP 2 (sG h5 (by simp))<|oA 0 (sU (o:=.no) h3)<|oB 0 h1 o0) (ih h)
  obtain rfl:=sj h
  exact fun j=>lF 0 [] (oD (dI d)<|oB 0 h1 o0)
theorem zWp{c a r}(h:zOR c a=some r):Ct 129 [] [zH zS a .no] (.sl (zF zS r) r.length .no) [] 0:=⟨by
 unfold zOR at h
 exact tH ⟨func129,rfl⟩ 1 [(none,3,1)] [] [0] [3,4,9,10,11] (oD (dI a)<|oD (dI ([]:zU)) o0) (zKP _ h),⟨⟨tv,dI _⟩,tv⟩,zB,dI _,zB⟩
def zOS(b:Nat)(a:Int):Option Bool:=
 if a==9 then
 none
 else
 if a==10 then
 none
 else
 if a==13 then
 none
 else
 some (a==32)
theorem zSX{b a r}(h:zOS b a=some r):Ct 205 [] [ai a] (ab r) [] 0:=⟨by
 unfold zOS at h
 obtain⟨h1,h⟩:=zT h
 have k:=oB 0 h1 o0
 obtain⟨h2,h⟩:=zT h
 have k:=oB 0 h2 k
 obtain⟨h3,h⟩:=zT h
 cases h
 exact tF ⟨func205,rfl⟩ 1 [] (oB 0 h3 k),⟨tv,tv⟩,zB,tv,zB⟩
def R4(e:Nat)(a b:zU)(c d:Int):Option Int:=
 if decide ((xE (c+d))≥(a.length:Int))then
 none
 else
 yG a (xE (c+d))>>=fun x2=>
 some x2
theorem zAC{e a b c d r}(h:R4 e a b c d=some r):Ct 206 [.cells [zH zS a .no,zH zS b .no,ai c]] [.mp 0 0,ai d] (ai r) [.cells [zH zS a .no,zH zS b .no,ai c]] 0:=⟨by
 unfold R4 at h
 obtain⟨h1,h⟩:=zT h
 obtain⟨x2,h3,h⟩:=zD h
 obtain rfl:=sj h
 exact tF ⟨func206,rfl⟩ 1 [0] (oD (dI b)<|oD (dI a)<|oA 3 (sU (o:=.no) h3)<|oB 4 h1 o0),⟨(lz rfl),tv,tv⟩,(zA ⟨⟨tv,dI _⟩,⟨tv,dI _⟩,tv,tv⟩ zB),tv,(zA ⟨dI _,dI _,tv,tv⟩ zB)⟩
def zHS(d:Nat)(a b:zU)(c e f:Int):Option Bool:=
 R4 d a b c 0>>=fun r1=>
 if r1==e then
 R4 d a b c 1>>=fun r4=>
 some (r4==f)
 else
 some false
theorem zSY:Qf 207 f207:=⟨func207,rfl⟩
theorem zOT{d a b c e f r}(h:zHS d a b c e f=some r):Ct 207 [.cells [zH zS a .no,zH zS b .no,ai c]] [.mp 0 0,ai e,ai f] (ab r) [.cells [zH zS a .no,zH zS b .no,ai c]] 0:=⟨by
 unfold zHS at h
 obtain⟨r1,h2,h⟩:=zD h
 have k:=oC 0 [0] (zAC h2) o0
 obtain⟨h3,h⟩|⟨h3,h⟩:=xA h
 obtain⟨r4,h5,h⟩:=zD h
 cases h
 exact tF zSY 1 [0] (oD (dI b)<|oD (dI a)<|oC 0 [0] (zAC h5)<|oB 0 h3 k)
 cases h
 exact tF zSY 0 [0] (oD (dI b)<|oD (dI a)<|oB 0 h3 k),⟨(lz rfl),tv,tv,tv⟩,(zA ⟨⟨tv,dI _⟩,⟨tv,dI _⟩,tv,tv⟩ zB),tv,(zA ⟨dI _,dI _,tv,tv⟩ zB)⟩
def cO:Nat->zU->zU->Int->Option (Int×Bool×Int)
 |0,_,_,_=>none
 |d+1,a,b,c=>
 if decide (c<(a.length:Int))then
 R4 d a b c 0>>=fun r2=>
 zOS d r2>>=fun r4=>
 if r4 then
 cO d a b (xE (c+1))
 else
 zHS d a b c 45 45>>=fun r7=>
 if r7 then
 none
 else
 zHS d a b c 123 45>>=fun r12=>
 if r12 then
 none
 else
 some (0,true,c)
 else
 some (0,true,c)
def zOU(d:Nat)(a b:zU)(e:Int):Option (Int×Bool×Int):=
 cO d a b e
theorem zKQ:∀d:Nat,(∀ {a b c r},cO d a b c=some r->(∀j,dL 1 (pt 229 f130) (sp j 48 0 [(0,.mp 0 0)]) (⟨[(0,.cells [zH zS a .no,zH zS b .no,ai c])],1,[],0,[]⟩) (fQ 1 (nQ 1 f130 (.tup [ai r.1,ab r.2.1]) [.cells [zH zS a .no,zH zS b .no,ai r.2.2]] 0) [.blk 0,.seq (pt 15 f130)]))):=by
 intro d
 induction d with
 |zero=>
  exact fun h=>nn h
 |succ d ih=>
  intro a b c r h
  rw[cO]at h
  have z {os ob} (k:Oz os ob):=oD (dI b)<|oD (dI a)<|k
  obtain⟨h1,h⟩|⟨h1,h⟩:=xA h
  obtain⟨r2,h3,h⟩:=zD h
  obtain⟨r4,h5,h⟩:=zD h
  have k:=oC 0 [0] (zAC h3)<|oB 3 h1 o0
  obtain⟨h6,h⟩|⟨h6,h⟩:=xA h
  exact fun j=>lH 3 [] [0] [] [0] (z<|oK 0 [] h6 (zSX h5) k) (ih h)
  obtain⟨r7,h8,h⟩:=zD h
  have k:=oK 0 [] h6 (zSX h5) k
  obtain⟨h9,h⟩:=zT h
  obtain⟨r12,h13,h⟩:=zD h
  have k:=oK 0 [0] h9 (zOT h8) k
  obtain⟨h14,h⟩:=zT h
  cases h
  exact fun j=>lF 0 [0] (z<|oK 0 [0] h14 (zOT h13) k)
  cases h
  exact fun j=>lF 0 [0] (z<|oB 3 h1 o0)
theorem zWo{d a b e r}(h:zOU d a b e=some r):Ct 130 [.cells [zH zS a .no,zH zS b .no,ai e]] [.mp 0 0] (.tup [ai r.1,ab r.2.1]) [.cells [zH zS a .no,zH zS b .no,ai r.2.2]] 0:=⟨by
 unfold zOU at h
 exact tH ⟨func130,rfl⟩ 0 [] [0] [] [0] (oD (dI b)<|oD (dI a) o0) (zKQ _ h),⟨(lz rfl),tv⟩,(zA ⟨⟨tv,dI _⟩,⟨tv,dI _⟩,tv,tv⟩ zB),⟨tv,tv,tv⟩,(zA ⟨dI _,dI _,tv,tv⟩ zB)⟩
def zKR(b:Nat)(a:ByteArray):Option Bool:=
 if a.toList==(⟨#[100,97,116,97]⟩:ByteArray).toList then
 none
 else
 if a.toList==(⟨#[114,101,99,111,114,100]⟩:ByteArray).toList then
 none
 else
 if a.toList==(⟨#[100,101,102]⟩:ByteArray).toList then
 some true
 else
 if a.toList==(⟨#[83,101,116]⟩:ByteArray).toList then
 some true
 else
 some false
theorem zOV:Qf 138 f138:=⟨func138,rfl⟩
theorem zOW{b a r}(h:zKR b a=some r):Ct 138 [] [at' a] (ab r) [] 0:=⟨by
 unfold zKR at h
 obtain⟨h1,h⟩:=zT h
 have k:=oB 0 h1 o0
 obtain⟨h2,h⟩:=zT h
 have k:=oB 0 h2 k
 obtain⟨h3,h⟩|⟨h3,h⟩:=xA h
 cases h
 exact tF zOV 0 [] (oB 0 h3 k)
 have k:=oB 0 h3 k
 obtain⟨h4,h⟩|⟨h4,h⟩:=xA h
 cases h
 exact tF zOV 0 [] (oB 0 h4 k)
 cases h
 exact tF zOV 0 [] (oB 0 h4 k),⟨tv,tv⟩,zB,tv,zB⟩
def zFA(b:Nat)(a:Int):Option Bool:=
 if decide (a<128)then
 if decide (a≥97)then
 if decide (a≤122)then
 some true
 else
 if decide (a≥65)then
 some (decide (a≤90))
 else
 none
 else
 if decide (a≥65)then
 some (decide (a≤90))
 else
 some false
 else
 none
theorem zKS:Qf 140 f140:=⟨func140,rfl⟩
theorem zFB{b a r}(h:zFA b a=some r):Ct 140 [] [ai a] (ab r) [] 0:=⟨by
 unfold zFA at h
 obtain⟨h1,h⟩:=xD h
 have k:=oB 0 h1 o0
 obtain⟨h2,h⟩|⟨h2,h⟩:=xA h
 have k:=oB 0 h2 k
 obtain⟨h3,h⟩|⟨h3,h⟩:=xA h
 cases h
 exact tF zKS 0 [] (oB 0 h3 k)
 have k:=oB 0 h3 k
 obtain⟨h4,h⟩:=xD h
 cases h
 exact tF zKS 1 [] (oB 0 h4 k)
 have k:=oB 0 h2 k
 obtain⟨h5,h⟩|⟨h5,h⟩:=xA h
 cases h
 exact tF zKS 1 [] (oB 0 h5 k)
 cases h
 exact tF zKS 0 [] (oB 0 h5 k),⟨tv,tv⟩,zB,tv,zB⟩
def zFC(b:Nat)(a:Int):Option Bool:=
 if decide (a≥48)then
 some (decide (a≤57))
 else
 some false
theorem zSZ:Qf 212 f212:=⟨func212,rfl⟩
theorem zFD{b a r}(h:zFC b a=some r):Ct 212 [] [ai a] (ab r) [] 0:=⟨by
 unfold zFC at h
 obtain⟨h1,h⟩|⟨h1,h⟩:=xA h
 cases h
 exact tF zSZ 1 [] (oB 0 h1 o0)
 cases h
 exact tF zSZ 0 [] (oB 0 h1 o0),⟨tv,tv⟩,zB,tv,zB⟩
def zKT(b:Nat)(a:Int):Option Bool:=
 zFA b a>>=fun r1=>
 if r1 then
 some true
 else
 zFC b a>>=fun r4=>
 if r4 then
 none
 else
 if a==95 then
 none
 else
 some (a==39)
theorem zTz:Qf 211 f211:=⟨func211,rfl⟩
theorem zOX{b a r}(h:zKT b a=some r):Ct 211 [] [ai a] (ab r) [] 0:=⟨by
 unfold zKT at h
 obtain⟨r1,h2,h⟩:=zD h
 obtain⟨h3,h⟩|⟨h3,h⟩:=xA h
 cases h
 exact tF zTz 0 [] (oK 0 [] h3 (zFB h2) o0)
 obtain⟨r4,h5,h⟩:=zD h
 have k:=oK 0 [] h3 (zFB h2) o0
 obtain⟨h6,h⟩:=zT h
 have k:=oK 0 [] h6 (zFD h5) k
 obtain⟨h7,h⟩:=zT h
 cases h
 exact tF zTz 1 [] (oB 0 h7 k),⟨tv,tv⟩,zB,tv,zB⟩
def cP:Nat->zU->Int->List U8->Option (ByteArray×Int)
 |0,_,_,_=>none
 |b+1,a,c,e=>
 if decide (c<(a.length:Int))then
 yG a c>>=fun x8=>
 zKO b x8>>=fun r10=>
 if decide ((xE ((e.length:Int)+(r10.1.size:Int)))>65535)then
 none
 else
 yV 1 e (gbs r10.1)>>=fun l13=>
 cP b a (xE (c+1)) l13
 else
 some ((mS e),0)
def cQ:Nat->zU->Int->Option (ByteArray×Int)
 |0,_,_=>none
 |b+1,a,d=>
 if decide (d<(a.length:Int))then
 yG a d>>=fun x2=>
 zHR b x2>>=fun r4=>
 if r4 then
 cQ b a (xE (d+1))
 else
 none
 else
 cP b a 0 []
def zKU(b:Nat)(a:zU):Option (ByteArray×Int):=
 cQ b a 0
theorem zKV:∀b:Nat,(∀ {a c e r},cP b a c e=some r->(∀j,dL 0 (pt 16309 f309) (sp j 44 0 [(6,zH gK e (.st 0 1)),(21,zH zS a .no),(22,ai (a.length:Int)),(23,ai c)]) (⟨[],0,[0],1,[]⟩) (fQ 0 (nQ 0 f309 (.tup [at' r.1,ai r.2]) [] 0) [.blk 2,.seq (pt 255 f309)]))):=by
 intro b
 induction b with
 |zero=>
  exact fun h=>nn h
 |succ b ih=>
  intro a c e r h
  rw[cP]at h
  obtain⟨h7,h⟩|⟨h7,h⟩:=xA h
  obtain⟨x8,h9,h⟩:=zD h
  obtain⟨r10,h11,h⟩:=zD h
  have k:=oC 1 [] (zSW h11)<|oA 0 (sU (o:=.no) h9)<|oB 0 h7 o0
  obtain⟨h12,h⟩:=zT h
  obtain⟨l13,h14,h⟩:=zD h
  have k:=oB 5 h12 k
  by_cases h15:List.length (gbs r10.1)=0
  exact fun j=>lH 1 [] [] [0] [6,21,22,23] (oD (dI a)<|oD (dU l13)<|oPs 0 (zFb h14 h15) k) (ih h)
  exact fun j=>lH 1 [] [] [1] [6,21,22,23] (oD (dI a)<|oD (dU l13)<|oPs 0 (zHJ h14 h15) k) (ih h)
  cases h
  exact fun j=>lF 0 [] (oA 0 (rA e (o:=(.st 0 1)))<|oB 0 h7 o0)
theorem zKW:∀b:Nat,(∀ {a d r},cQ b a d=some r->(∀j,dL 0 (pt 949 f309) (sp j 44 0 [(0,zH zS a .no),(11,zH zS a .no),(12,ai (a.length:Int)),(13,ai d)]) (⟨[],0,[],0,[]⟩) (fQ 0 (nQ 0 f309 (.tup [at' r.1,ai r.2]) [] 0) [.blk 0,.seq (pt 15 f309)]))):=by
 intro b
 induction b with
 |zero=>
  exact fun h=>nn h
 |succ b ih=>
  intro a d r h
  rw[cQ]at h
  obtain⟨h1,h⟩|⟨h1,h⟩:=xA h
  obtain⟨x2,h3,h⟩:=zD h
  obtain⟨r4,h5,h⟩:=zD h
  have k:=oA 0 (sU (o:=.no) h3)<|oB 0 h1 o0
  obtain⟨h6,h⟩:=xD h
  exact fun j=>lH 2 [] [] [] [0,11,12,13] (oD (dI a)<|oD (dI a)<|oK 1 [] h6 (zOO h5) k) (ih h)
  exact fun j=>lH 1 [(none,6,1)] [] [0] [6,21,22,23] (oD (dI a)<|oD (dU ([]:List U8))<|oB 0 h1 o0) (zKV _ h)
theorem zTy{b a r}(h:zKU b a=some r):Ct 309 [] [zH zS a .no] (.tup [at' r.1,ai r.2]) [] 0:=⟨by
 unfold zKU at h
 exact tH ⟨func309,rfl⟩ 1 [] [] [] [0,11,12,13] (oD (dI a)<|oD (dI a) o0) (zKW _ h),⟨⟨tv,dI _⟩,tv⟩,zB,⟨tv,tv,tv⟩,zB⟩
def qQ:Nat->zU->zU->Int->Int->Option (ByteArray×Int)
 |0,_,_,_,_=>none
 |d+1,b,c,e,a=>
 if decide (a<(b.length:Int))then
 R4 d b c a 0>>=fun r2=>
 zKT d r2>>=fun r4=>
 if r4 then
 qQ d b c e (xE (a+1))
 else
 C4 b e a>>=fun x7=>
 zKU d x7>>=fun r9=>
 some (r9.1,a)
 else
 none
def E0(d:Nat)(b c:zU)(e:Int):Option (ByteArray×Int):=
 qQ d b c e e
theorem zAD:∀d:Nat,(∀ {b c e a r},qQ d b c e a=some r->(∀j,dL 1 (pt 997 f210) (sp j 50 0 [(0,.mp 0 0),(1,.clo 211 [] []),(5,ai e)]) (⟨[(0,.cells [zH zS b .no,zH zS c .no,ai a])],1,[],0,[]⟩) (fQ 1 (nQ 1 f210 (at' r.1) [.cells [zH zS b .no,zH zS c .no,ai r.2]] 0) [.blk 0,.seq (pt 63 f210)]))):=by
 intro d
 induction d with
 |zero=>
  exact fun h=>nn h
 |succ d ih=>
  intro b c e a r h
  rw[qQ]at h
  obtain⟨h1,h⟩:=xD h
  obtain⟨r2,h3,h⟩:=zD h
  obtain⟨r4,h5,h⟩:=zD h
  have k:=oC 0 [0] (zAC h3)<|oB 3 h1 o0
  obtain⟨h6,h⟩|⟨h6,h⟩:=xA h
  exact fun j=>lH 3 [] [0] [] [0,1,5] (oD (dI c)<|oD (dI b)<|oK 0 [] h6 (zOX h5) k) (ih h)
  obtain⟨x7,h8,h⟩:=zD h
  obtain⟨r9,h10,h⟩:=zD h
  cases h
  exact fun j=>lF 2 [0] (oD (dI c)<|oD (dI b)<|oC 0 [] (zTy h10)<|oA 2 (zSQ h8)<|oK 0 [] h6 (zOX h5) k)
theorem zHT{d b c e r}(h:E0 d b c e=some r):Ct 210 [.cells [zH zS b .no,zH zS c .no,ai e]] [.mp 0 0,.clo 211 [] []] (at' r.1) [.cells [zH zS b .no,zH zS c .no,ai r.2]] 0:=⟨by
 unfold E0 at h
 exact tH ⟨func210,rfl⟩ 1 [] [0] [] [0,1,5] (oD (dI c)<|oD (dI b) o0) (zAD _ h),⟨(lz rfl),⟨tv,tv⟩,tv⟩,(zA ⟨⟨tv,dI _⟩,⟨tv,dI _⟩,tv,tv⟩ zB),tv,(zA ⟨dI _,dI _,tv,tv⟩ zB)⟩
def qS:Nat->zU->zU->Int->Int->Option (ByteArray×Int)
 |0,_,_,_,_=>none
 |d+1,b,c,e,a=>
 if decide (a<(b.length:Int))then
 R4 d b c a 0>>=fun r2=>
 zFC d r2>>=fun r4=>
 if r4 then
 qS d b c e (xE (a+1))
 else
 C4 b e a>>=fun x7=>
 zKU d x7>>=fun r9=>
 some (r9.1,a)
 else
 none
def E1(d:Nat)(b c:zU)(e:Int):Option (ByteArray×Int):=
 qS d b c e e
theorem zAE:∀d:Nat,(∀ {b c e a r},qS d b c e a=some r->(∀j,dL 1 (pt 997 f210) (sp j 50 0 [(0,.mp 0 0),(1,.clo 212 [] []),(5,ai e)]) (⟨[(0,.cells [zH zS b .no,zH zS c .no,ai a])],1,[],0,[]⟩) (fQ 1 (nQ 1 f210 (at' r.1) [.cells [zH zS b .no,zH zS c .no,ai r.2]] 0) [.blk 0,.seq (pt 63 f210)]))):=by
 intro d
 induction d with
 |zero=>
  exact fun h=>nn h
 |succ d ih=>
  intro b c e a r h
  rw[qS]at h
  obtain⟨h1,h⟩:=xD h
  obtain⟨r2,h3,h⟩:=zD h
  obtain⟨r4,h5,h⟩:=zD h
  have k:=oC 0 [0] (zAC h3)<|oB 3 h1 o0
  obtain⟨h6,h⟩|⟨h6,h⟩:=xA h
  exact fun j=>lH 3 [] [0] [] [0,1,5] (oD (dI c)<|oD (dI b)<|oK 0 [] h6 (zFD h5) k) (ih h)
  obtain⟨x7,h8,h⟩:=zD h
  obtain⟨r9,h10,h⟩:=zD h
  cases h
  exact fun j=>lF 2 [0] (oD (dI c)<|oD (dI b)<|oC 0 [] (zTy h10)<|oA 2 (zSQ h8)<|oK 0 [] h6 (zFD h5) k)
theorem zHU{d b c e r}(h:E1 d b c e=some r):Ct 210 [.cells [zH zS b .no,zH zS c .no,ai e]] [.mp 0 0,.clo 212 [] []] (at' r.1) [.cells [zH zS b .no,zH zS c .no,ai r.2]] 0:=⟨by
 unfold E1 at h
 exact tH ⟨func210,rfl⟩ 1 [] [0] [] [0,1,5] (oD (dI c)<|oD (dI b) o0) (zAE _ h),⟨(lz rfl),⟨tv,tv⟩,tv⟩,(zA ⟨⟨tv,dI _⟩,⟨tv,dI _⟩,tv,tv⟩ zB),tv,(zA ⟨dI _,dI _,tv,tv⟩ zB)⟩
def cR:Nat->ByteArray->Int->Nat->Option (Int×Bool)
 |0,_,_,_=>none
 |c+1,b,d,a=>
 if decide (a<ByteArray.size b)then
 zFC c (xE (((Utf8.decode b a).1:Int)))>>=fun r8=>
 if r8 then
 cR c b (xE ((xE (10*d))+(xE ((IntKind.i32.wrap (((Utf8.decode b a).1:Int)-48)))))) (a+(Utf8.decode b a).2)
 else
 none
 else
 some (d,true)
def zKX(c:Nat)(b:ByteArray):Option (Int×Bool):=
 if b.toList==(⟨#[]⟩:ByteArray).toList then
 none
 else
 if decide ((b.size:Int)>3)then
 none
 else
 zAu b 0>>=fun x3=>
 if x3==48 then
 none
 else
 cR c b 0 0
theorem zKY:∀c:Nat,(∀ {b d a r},cR c b d a=some r->(∀j,dL 0 (pt 16309 f213) (sp j 40 0 [(4,ai d),(25,.mp 0 0)]) (⟨[(0,.obj (.stringIter b a))],1,[],0,[]⟩) (fQ 0 (nQ 0 f213 (.tup [ai r.1,ab r.2]) [] 0) [.blk 0,.seq (pt 255 f213)]))):=by
 intro c
 induction c with
 |zero=>
  exact fun h=>nn h
 |succ c ih=>
  intro b d a r h
  rw[cR]at h
  obtain⟨h7,h⟩|⟨h7,h⟩:=xA h
  obtain⟨r8,h9,h⟩:=zD h
  have k:=oX 0 (zKb (of_decide_eq_true h7)) o0
  obtain⟨h10,h⟩:=xD h
  exact fun j=>lH 5 [] [0] [] [4,25] (oK 3 [] h10 (zFD h9) k) (ih h)
  cases h
  exact fun j=>lF 1 [] (oX 0 (zKa (of_decide_eq_false h7)) o0)
theorem zTx{c b r}(h:zKX c b=some r):Ct 213 [] [at' b] (.tup [ai r.1,ab r.2]) [] 0:=⟨by
 unfold zKX at h
 obtain⟨h1,h⟩:=zT h
 have k:=oB 0 h1 o0
 obtain⟨h2,h⟩:=zT h
 obtain⟨x3,h4,h⟩:=zD h
 have k:=oA 0 (zHN h4)<|oB 1 h2 k
 obtain⟨h5,h⟩:=zT h
 exact tH ⟨func213,rfl⟩ 0 [] [0] [] [4,25] (oB 0 h5 k) (zKY _ h),⟨tv,tv⟩,zB,⟨tv,tv,tv⟩,zB⟩
def zOY(d:Nat)(a b:zU)(c:Int):Option (ByteArray×Int):=
 R4 d a b c 0>>=fun r1=>
 if r1==40 then
 some ((mS [(IntKind.u8.wrap (r1))]),1)
 else
 if r1==41 then
 some ((mS [(IntKind.u8.wrap (r1))]),1)
 else
 if r1==123 then
 some ((mS [(IntKind.u8.wrap (r1))]),1)
 else
 if r1==125 then
 some ((mS [(IntKind.u8.wrap (r1))]),1)
 else
 if r1==58 then
 some ((mS [(IntKind.u8.wrap (r1))]),1)
 else
 if r1==61 then
 some ((mS [(IntKind.u8.wrap (r1))]),1)
 else
 if r1==46 then
 none
 else
 if r1==44 then
 none
 else
 if r1==59 then
 some ((mS [(IntKind.u8.wrap (r1))]),1)
 else
 if r1==124 then
 none
 else
 if r1==92 then
 none
 else
 if r1==955 then
 none
 else
 if r1==8594 then
 none
 else
 zHS d a b c 45 62>>=fun r16=>
 if r16 then
 some ((⟨#[45,62]⟩:ByteArray),2)
 else
 none
theorem zAF:Qf 214 f214:=⟨func214,rfl⟩
theorem zWn{d a b c r}(h:zOY d a b c=some r):Ct 214 [.cells [zH zS a .no,zH zS b .no,ai c]] [.mp 0 0] (.tup [at' r.1,ai r.2]) [.cells [zH zS a .no,zH zS b .no,ai c]] 0:=⟨by
 unfold zOY at h
 have z {os ob} (k:Oz os ob):=oD (dI b)<|oD (dI a)<|k
 obtain⟨r1,h2,h⟩:=zD h
 have k:=oC 0 [0] (zAC h2) o0
 obtain⟨h3,h⟩|⟨h3,h⟩:=xA h
 cases h
 exact tF zAF 0 [0] (z<|oA 2 (rA [(IntKind.u8.wrap (r1))] (o:=.full))<|oB 0 h3 k)
 have k:=oB 0 h3 k
 obtain⟨h4,h⟩|⟨h4,h⟩:=xA h
 cases h
 exact tF zAF 0 [0] (z<|oA 2 (rA [(IntKind.u8.wrap (r1))] (o:=.full))<|oB 0 h4 k)
 have k:=oB 0 h4 k
 obtain⟨h5,h⟩|⟨h5,h⟩:=xA h
 cases h
 exact tF zAF 0 [0] (z<|oA 2 (rA [(IntKind.u8.wrap (r1))] (o:=.full))<|oB 0 h5 k)
 have k:=oB 0 h5 k
 obtain⟨h6,h⟩|⟨h6,h⟩:=xA h
 cases h
 exact tF zAF 0 [0] (z<|oA 2 (rA [(IntKind.u8.wrap (r1))] (o:=.full))<|oB 0 h6 k)
 have k:=oB 0 h6 k
 obtain⟨h7,h⟩|⟨h7,h⟩:=xA h
 cases h
 exact tF zAF 0 [0] (z<|oA 2 (rA [(IntKind.u8.wrap (r1))] (o:=.full))<|oB 0 h7 k)
 have k:=oB 0 h7 k
 obtain⟨h8,h⟩|⟨h8,h⟩:=xA h
 cases h
 exact tF zAF 0 [0] (z<|oA 2 (rA [(IntKind.u8.wrap (r1))] (o:=.full))<|oB 0 h8 k)
 have k:=oB 0 h8 k
 obtain⟨h9,h⟩:=zT h
 have k:=oB 0 h9 k
 obtain⟨h10,h⟩:=zT h
 have k:=oB 0 h10 k
 obtain⟨h11,h⟩|⟨h11,h⟩:=xA h
 cases h
 exact tF zAF 0 [0] (z<|oA 2 (rA [(IntKind.u8.wrap (r1))] (o:=.full))<|oB 0 h11 k)
 have k:=oB 0 h11 k
 obtain⟨h12,h⟩:=zT h
 have k:=oB 0 h12 k
 obtain⟨h13,h⟩:=zT h
 have k:=oB 0 h13 k
 obtain⟨h14,h⟩:=zT h
 have k:=oB 0 h14 k
 obtain⟨h15,h⟩:=zT h
 obtain⟨r16,h17,h⟩:=zD h
 have k:=oB 0 h15 k
 obtain⟨h18,h⟩:=xD h
 cases h
 exact tF zAF 0 [0] (z<|oK 0 [0] h18 (zOT h17) k),⟨(lz rfl),tv⟩,(zA ⟨⟨tv,dI _⟩,⟨tv,dI _⟩,tv,tv⟩ zB),⟨tv,tv,tv⟩,(zA ⟨dI _,dI _,tv,tv⟩ zB)⟩
def zOZ(b:Nat)(a:Int):Option Bool:=
 zFA b a>>=fun r1=>
 if r1 then
 some true
 else
 none
theorem zWm{b a r}(h:zOZ b a=some r):Ct 139 [] [ai a] (ab r) [] 0:=⟨by
 unfold zOZ at h
 obtain⟨r1,h2,h⟩:=zD h
 obtain⟨h3,h⟩:=xD h
 cases h
 exact tF ⟨func139,rfl⟩ 0 [] (oK 0 [] h3 (zFB h2) o0),⟨tv,tv⟩,zB,tv,zB⟩
def Y4:Nat->(zU×Int×Int)->Int->Option Bool
 |0,_,_=>none
 |b+1,r1,a=>
 if decide (a<(r1.1.length:Int))then
 yG r1.1 a>>=fun x10=>
 zOZ b x10>>=fun r12=>
 if r12 then
 Y4 b r1 (xE (a+1))
 else
 none
 else
 yG r1.1 0>>=fun x15=>
 zFA b x15>>=fun r17=>
 if r17 then
 some true
 else
 none
def e81(b:Nat)(c:ByteArray):Option Bool:=
 zKM b c>>=fun r1=>
 if r1.2.2 != 0 then
 none
 else
 if (r1.1.length:Int)==0 then
 none
 else
 if decide ((c.size:Int)>40)then
 none
 else
 zKR b c>>=fun r6=>
 if r6 then
 none
 else
 Y4 b r1 0
theorem zPz:∀b:Nat,(∀ {r1 a r},Y4 b r1 a=some r->(∀j,dL 0 (pt 16309 f81) (sp j 55 0 [(3,zH zS r1.1 .no),(30,zH zS r1.1 .no),(31,ai (r1.1.length:Int)),(32,ai a)]) (⟨[],0,[],0,[]⟩) (fQ 0 (nQ 0 f81 (ab r) [] 0) [.blk 0,.seq (pt 255 f81)]))):=by
 intro b
 induction b with
 |zero=>
  exact fun h=>nn h
 |succ b ih=>
  intro r1 a r h
  rw[Y4]at h
  obtain⟨h9,h⟩|⟨h9,h⟩:=xA h
  obtain⟨x10,h11,h⟩:=zD h
  obtain⟨r12,h13,h⟩:=zD h
  have k:=oA 0 (sU (o:=.no) h11)<|oB 0 h9 o0
  obtain⟨h14,h⟩:=xD h
  exact fun j=>lH 2 [] [] [] [3,30,31,32] (oD (dI r1.1)<|oD (dI r1.1)<|oK 1 [] h14 (zWm h13) k) (ih h)
  obtain⟨x15,h16,h⟩:=zD h
  obtain⟨r17,h18,h⟩:=zD h
  have k:=oA 0 (sU (o:=.no) h16)<|oB 0 h9 o0
  obtain⟨h19,h⟩:=xD h
  cases h
  exact fun j=>lF 0 [] (oK 1 [] h19 (zFB h18) k)
theorem c81{b c r}(h:e81 b c=some r):Ct 81 [] [at' c] (ab r) [] 0:=⟨by
 unfold e81 at h
 obtain⟨r1,h2,h⟩:=zD h
 have k:=oC 0 [] (zSV h2) o0
 obtain⟨h3,h⟩:=zT h
 have k:=oB 3 h3 k
 obtain⟨h4,h⟩:=zT h
 have k:=oB 1 h4 k
 obtain⟨h5,h⟩:=zT h
 obtain⟨r6,h7,h⟩:=zD h
 have k:=oB 1 h5 k
 obtain⟨h8,h⟩:=zT h
 exact tH ⟨func81,rfl⟩ 1 [] [] [] [3,30,31,32] (oD (dI r1.1)<|oD (dI r1.1)<|oK 0 [] h8 (zOW h7) k) (zPz _ h),⟨tv,tv⟩,zB,tv,zB⟩
def zPy(d:Nat)(a b:zU)(c:Int):Option (yK×Bool×Int):=
 yG b c>>=fun x1=>
 R4 d a b c 0>>=fun r3=>
 zFA d r3>>=fun r5=>
 if r5 then
 E0 d a b c>>=fun r8=>
 zKR d r8.1>>=fun r10=>
 if r10 then
 some ((yK.mk 2 r8.1 x1),true,r8.2)
 else
 if r8.1.toList==(⟨#[95]⟩:ByteArray).toList then
 none
 else
 e81 d r8.1>>=fun r14=>
 some ((yK.mk 1 r8.1 x1),r14,r8.2)
 else
 if r3==95 then
 none
 else
 zFC d r3>>=fun r25=>
 if r25 then
 E1 d a b c>>=fun r28=>
 zKX d r28.1>>=fun r30=>
 if r30.2 then
 R4 d a b r28.2 0>>=fun r33=>
 zKT d r33>>=fun r35=>
 some ((yK.mk 3 r28.1 x1),!r35,r28.2)
 else
 none
 else
 zOY d a b c>>=fun r37=>
 some ((yK.mk 4 r37.1 x1),decide (r37.2>0),(xE (c+r37.2)))
theorem zKZ:Qf 131 f131:=⟨func131,rfl⟩
theorem zWl{d a b c r}(h:zPy d a b c=some r):Ct 131 [.cells [zH zS a .no,zH zS b .no,ai c]] [.mp 0 0] (.tup [dM r.1,ab r.2.1]) [.cells [zH zS a .no,zH zS b .no,ai r.2.2]] 0:=⟨by
 unfold zPy at h
 have z {os ob} (k:Oz os ob):=oD (dI b)<|oD (dI a)<|k
 obtain⟨x1,h2,h⟩:=zD h
 obtain⟨r3,h4,h⟩:=zD h
 obtain⟨r5,h6,h⟩:=zD h
 have k:=oC 2 [0] (zAC h4)<|oA 2 (sU (o:=.no) h2) o0
 obtain⟨h7,h⟩|⟨h7,h⟩:=xA h
 obtain⟨r8,h9,h⟩:=zD h
 obtain⟨r10,h11,h⟩:=zD h
 have k:=oC 0 [0] (zHT h9)<|oK 0 [] h7 (zFB h6) k
 obtain⟨h12,h⟩|⟨h12,h⟩:=xA h
 cases h
 exact tF zKZ 5 [0] (z<|oK 3 [] h12 (zOW h11) k)
 have k:=oK 3 [] h12 (zOW h11) k
 obtain⟨h13,h⟩:=zT h
 obtain⟨r14,h15,h⟩:=zD h
 cases h
 exact tF zKZ 1 [0] (z<|oC 1 [] (c81 h15)<|oB 4 h13 k)
 have k:=oK 0 [] h7 (zFB h6) k
 obtain⟨h16,h⟩:=zT h
 obtain⟨r25,h26,h⟩:=zD h
 have k:=oB 0 h16 k
 obtain⟨h27,h⟩|⟨h27,h⟩:=xA h
 obtain⟨r28,h29,h⟩:=zD h
 obtain⟨r30,h31,h⟩:=zD h
 have k:=oC 3 [] (zTx h31)<|oC 0 [0] (zHU h29)<|oK 0 [] h27 (zFD h26) k
 obtain⟨h32,h⟩:=xD h
 obtain⟨r33,h34,h⟩:=zD h
 obtain⟨r35,h36,h⟩:=zD h
 cases h
 exact tF zKZ 2 [0] (z<|oC 0 [] (zOX h36)<|oC 1 [0] (zAC h34)<|oB 1 h32 k)
 obtain⟨r37,h38,h⟩:=zD h
 cases h
 exact tF zKZ 10 [0] (z<|oC 0 [0] (zWn h38)<|oK 0 [] h27 (zFD h26) k),⟨(lz rfl),tv⟩,(zA ⟨⟨tv,dI _⟩,⟨tv,dI _⟩,tv,tv⟩ zB),⟨⟨tv,tv,tv,tv⟩,tv,tv⟩,(zA ⟨dI _,dI _,tv,tv⟩ zB)⟩
def Y5:Nat->ByteArray->(zU×Int×Int)->zU->List yK->Int->Option (List yK×Int×Int)
 |0,_,_,_,_,_=>none
 |b+1,c,r1,r4,d,a=>
 zOU b r1.1 r4 a>>=fun r6=>
 if r6.2.1 then
 if decide (r6.2.2≥(r1.1.length:Int))then
 yV 32 d [(yK.mk 5 (⟨#[]⟩:ByteArray) (c.size:Int))]>>=fun l10=>
 some (l10,(c.size:Int),0)
 else
 if decide ((d.length:Int)≥8192)then
 none
 else
 zPy b r1.1 r4 r6.2.2>>=fun r15=>
 if r15.2.1 then
 yV 32 d [r15.1]>>=fun l18=>
 Y5 b c r1 r4 l18 r15.2.2
 else
 none
 else
 none
def e69(b:Nat)(c:ByteArray):Option (List yK×Int×Int):=
 zKM b c>>=fun r1=>
 if r1.2.2 != 0 then
 none
 else
 zOR b r1.1>>=fun r4=>
 Y5 b c r1 r4 [] 0
theorem zPx:∀b:Nat,(∀ {c r1 r4 d a r},Y5 b c r1 r4 d a=some r->(∀j,dL 0 (pt 65509 f69) (sp j 81 0 [(0,at' c),(8,.mp 0 0),(9,zH yA d (.st 0 3))]) (⟨[(0,.cells [zH zS r1.1 .no,zH zS r4 .no,ai a])],1,[0],1,[]⟩) (fQ 0 (nQ 0 f69 (.tup [.sl (zF yA r.1) r.1.length .no,ai r.2.1,ai r.2.2]) [] 0) [.blk 0,.seq (pt 4095 f69)]))):=by
 intro b
 induction b with
 |zero=>
  exact fun h=>nn h
 |succ b ih=>
  intro c r1 r4 d a r h
  rw[Y5]at h
  obtain⟨r6,h7,h⟩:=zD h
  have k:=oC 0 [0] (zWo h7) o0
  obtain⟨h8,h⟩:=xD h
  have k:=oB 1 h8 k
  obtain⟨h9,h⟩|⟨h9,h⟩:=xA h
  obtain⟨l10,h11,h⟩:=zD h
  cases h
  exact fun j=>lF 1 [] (oD (zP l10)<|oP 2 (zNP h11 (by simp))<|oB 4 h9 k)
  have k:=oB 4 h9 k
  obtain⟨h12,h⟩:=zT h
  obtain⟨r15,h16,h⟩:=zD h
  have k:=oC 0 [0] (zWl h16)<|oB 1 h12 k
  obtain⟨h17,h⟩:=xD h
  obtain⟨l18,h19,h⟩:=zD h
  exact fun j=>lH 0 [] [0] [1] [0,8,9] (oD (zP l18)<|oD (dI r4)<|oD (dI r1.1)<|oP 4 (zNP h19 (by simp))<|oB 1 h17 k) (ih h)
theorem c69{b c r}(h:e69 b c=some r):Ct 69 [] [at' c] (.tup [.sl (zF yA r.1) r.1.length .no,ai r.2.1,ai r.2.2]) [] 0:=⟨by
 unfold e69 at h
 obtain⟨r1,h2,h⟩:=zD h
 have k:=oC 0 [] (zSV h2) o0
 obtain⟨h3,h⟩:=zT h
 obtain⟨r4,h5,h⟩:=zD h
 exact tH ⟨func69,rfl⟩ 0 [(none,9,3)] [0] [0] [0,8,9] (oD (zP ([]:List yK))<|oD (dI r4)<|oD (dI r1.1)<|oC 0 [] (zWp h5)<|oB 3 h3 k) (zPx _ h),⟨tv,tv⟩,zB,⟨zP _,tv,tv,tv⟩,zB⟩
def e37(b:Nat)(a:ByteArray):Option (List yK×Int×Int×Int):=
 e69 b a>>=fun r1=>
 if r1.2.2 != 0 then
 none
 else
 some (r1.1,0,0,0)
theorem c37{b a r}(h:e37 b a=some r):Ct 37 [] [at' a] (.mp 0 0) [.cells [zH yA r.1 .no,ai r.2.1,ai r.2.2.1,ai r.2.2.2]] 0:=⟨by
 unfold e37 at h
 obtain⟨r1,h2,h⟩:=zD h
 have k:=oC 0 [] (c69 h2) o0
 obtain⟨h3,h⟩:=zT h
 cases h
 exact tF ⟨func37,rfl⟩ 0 [0] (oD (zP r1.1)<|oB 3 h3 k),⟨tv,tv⟩,zB,(lz rfl),(zA ⟨zP _,tv,tv,tv,tv⟩ zB)⟩
def cD(f:Nat)(b:List yK)(c d a e:Int):Option yK:=
 if decide ((xE (c+e))≥(b.length:Int))then
 none
 else
 yG b (xE (c+e))>>=fun x4=>
 some x4
theorem E2{f b c d a e r}(h:cD f b c d a e=some r):Ct 38 [.cells [zH yA b .no,ai c,ai d,ai a]] [.mp 0 0,ai e] (dM r) [.cells [zH yA b .no,ai c,ai d,ai a]] 0:=⟨by
 unfold cD at h
 obtain⟨h1,h⟩:=zT h
 obtain⟨x4,h5,h⟩:=zD h
 obtain rfl:=sj h
 exact tF ⟨func38,rfl⟩ 2 [0] (oD (zP b)<|oA 3 (zWx (o:=.no) h5)<|oB 4 h1 o0),⟨(lz rfl),tv,tv⟩,(zA ⟨⟨tv,zP _⟩,tv,tv,tv,tv⟩ zB),⟨tv,tv,tv,tv⟩,(zA ⟨zP _,tv,tv,tv,tv⟩ zB)⟩
def pR(g:Nat)(b:List yK)(d c a f:Int)(e:ByteArray):Option Bool:=
 cD g b d c a f>>=fun r1=>
 if r1.kind_==4 then
 some (r1.text_.toList==e.toList)
 else
 if r1.kind_==2 then
 some (r1.text_.toList==e.toList)
 else
 some false
theorem zPw:Qf 132 f132:=⟨func132,rfl⟩
theorem sV{g b d c a f e r}(h:pR g b d c a f e=some r):Ct 132 [.cells [zH yA b .no,ai d,ai c,ai a]] [.mp 0 0,ai f,at' e] (ab r) [.cells [zH yA b .no,ai d,ai c,ai a]] 0:=⟨by
 unfold pR at h
 obtain⟨r1,h2,h⟩:=zD h
 have k:=oC 0 [0] (E2 h2) o0
 obtain⟨h3,h⟩|⟨h3,h⟩:=xA h
 cases h
 exact tF zPw 2 [0] (oD (zP b)<|oB 2 h3 k)
 have k:=oB 2 h3 k
 obtain⟨h4,h⟩|⟨h4,h⟩:=xA h
 cases h
 exact tF zPw 2 [0] (oD (zP b)<|oB 1 h4 k)
 cases h
 exact tF zPw 0 [0] (oD (zP b)<|oB 1 h4 k),⟨(lz rfl),tv,tv,tv⟩,(zA ⟨⟨tv,zP _⟩,tv,tv,tv,tv⟩ zB),tv,(zA ⟨zP _,tv,tv,tv,tv⟩ zB)⟩
def e70(e:Nat)(c:List yK)(d b a:Int):Option Int:=
 pR e c d b a 0 (⟨#[100,97,116,97]⟩:ByteArray)>>=fun r1=>
 if r1 then
 none
 else
 pR e c d b a 0 (⟨#[114,101,99,111,114,100]⟩:ByteArray)>>=fun r4=>
 if r4 then
 none
 else
 pR e c d b a 0 (⟨#[100,101,102]⟩:ByteArray)>>=fun r7=>
 if r7 then
 some 3
 else
 none
theorem c70{e c d b a r}(h:e70 e c d b a=some r):Ct 70 [.cells [zH yA c .no,ai d,ai b,ai a]] [.mp 0 0] (ai r) [.cells [zH yA c .no,ai d,ai b,ai a]] 0:=⟨by
 unfold e70 at h
 obtain⟨r1,h2,h⟩:=zD h
 obtain⟨h3,h⟩:=zT h
 obtain⟨r4,h5,h⟩:=zD h
 have k:=oK 0 [0] h3 (sV h2) o0
 obtain⟨h6,h⟩:=zT h
 obtain⟨r7,h8,h⟩:=zD h
 have k:=oK 0 [0] h6 (sV h5) k
 obtain⟨h9,h⟩:=xD h
 cases h
 exact tF ⟨func70,rfl⟩ 0 [0] (oD (zP c)<|oK 0 [0] h9 (sV h8) k),⟨(lz rfl),tv⟩,(zA ⟨⟨tv,zP _⟩,tv,tv,tv,tv⟩ zB),tv,(zA ⟨zP _,tv,tv,tv,tv⟩ zB)⟩
def zHV(f:Nat)(c:List yK)(d b a e:Int):Option Bool:=
 cD f c d b a e>>=fun r1=>
 if r1.kind_==1 then
 cD f c d b a e>>=fun r4=>
 some (!(r4.text_.toList==(⟨#[95]⟩:ByteArray).toList))
 else
 some false
theorem zTw:Qf 133 f133:=⟨func133,rfl⟩
theorem zLz{f c d b a e r}(h:zHV f c d b a e=some r):Ct 133 [.cells [zH yA c .no,ai d,ai b,ai a]] [.mp 0 0,ai e] (ab r) [.cells [zH yA c .no,ai d,ai b,ai a]] 0:=⟨by
 unfold zHV at h
 obtain⟨r1,h2,h⟩:=zD h
 have k:=oC 0 [0] (E2 h2) o0
 obtain⟨h3,h⟩|⟨h3,h⟩:=xA h
 obtain⟨r4,h5,h⟩:=zD h
 cases h
 exact tF zTw 1 [0] (oD (zP c)<|oC 0 [0] (E2 h5)<|oB 0 h3 k)
 cases h
 exact tF zTw 0 [0] (oD (zP c)<|oB 0 h3 k),⟨(lz rfl),tv,tv⟩,(zA ⟨⟨tv,zP _⟩,tv,tv,tv,tv⟩ zB),tv,(zA ⟨zP _,tv,tv,tv,tv⟩ zB)⟩
def e72(e:Nat)(c:List yK)(d b a:Int):Option (ByteArray×Int×Int×Int):=
 zHV e c d b a 0>>=fun r1=>
 if r1 then
 if a != 0 then
 none
 else
 cD e c (xE (d+1)) b a (-1)>>=fun r5=>
 some (r5.text_,(xE (d+1)),b,a)
 else
 none
theorem c72{e c d b a r}(h:e72 e c d b a=some r):Ct 72 [.cells [zH yA c .no,ai d,ai b,ai a]] [.mp 0 0] (at' r.1) [.cells [zH yA c .no,ai r.2.1,ai r.2.2.1,ai r.2.2.2]] 0:=⟨by
 unfold e72 at h
 obtain⟨r1,h2,h⟩:=zD h
 obtain⟨h3,h⟩:=xD h
 have k:=oK 0 [0] h3 (zLz h2) o0
 obtain⟨h4,h⟩:=zT h
 obtain⟨r5,h6,h⟩:=zD h
 cases h
 exact tF ⟨func72,rfl⟩ 0 [0] (oD (zP c)<|oC 3 [0] (E2 h6)<|oB 2 h4 k),⟨(lz rfl),tv⟩,(zA ⟨⟨tv,zP _⟩,tv,tv,tv,tv⟩ zB),tv,(zA ⟨zP _,tv,tv,tv,tv⟩ zB)⟩
def e76(f:Nat)(c:List yK)(d b a:Int)(e:ByteArray):Option (Int×Int×Int):=
 pR f c d b a 0 e>>=fun r1=>
 if r1 then
 if a==0 then
 some ((xE (d+1)),b,a)
 else
 none
 else
 none
theorem c76{f c d b a e r}(h:e76 f c d b a e=some r):Ct 76 [.cells [zH yA c .no,ai d,ai b,ai a]] [.mp 0 0,at' e] (.tup []) [.cells [zH yA c .no,ai r.1,ai r.2.1,ai r.2.2]] 0:=⟨by
 unfold e76 at h
 obtain⟨r1,h2,h⟩:=zD h
 obtain⟨h3,h⟩:=xD h
 have k:=oK 0 [0] h3 (sV h2) o0
 obtain⟨h4,h⟩:=xD h
 cases h
 exact tF ⟨func76,rfl⟩ 3 [0] (oD (zP c)<|oB 2 h4 k),⟨(lz rfl),tv,tv⟩,(zA ⟨⟨tv,zP _⟩,tv,tv,tv,tv⟩ zB),tv,(zA ⟨zP _,tv,tv,tv,tv⟩ zB)⟩
mutual
def zHX:Nat->zO->Int->Option Int
 |0,_,_=>none
 |c+1,a,d=>
 cS c a (xE (d+1)) 0
def cS:Nat->zO->Int->Int->Option Int
 |0,_,_,_=>none
 |c+1,a,e,b=>
 if decide (b<(a.sub_.length:Int))then
 yG a.sub_ b>>=fun x2=>
 if decide (e>8192)then
 none
 else
 zHX c x2 e>>=fun r5=>
 cS c a r5 (xE (b+1))
 else
 some e
end
abbrev zTv (a:zO) (d r:Int) (C:Cf):Prop:=C 393 [] [xP a,ai d] (ai r) [] 0
theorem zAG:∀c:Nat,(∀ {a d r},zHX c a d=some r->zTv a d r Ct)∧(∀ {a e b r},cS c a e b=some r->(∀j,dL 0 (pt 4021 f393) (sp j 23 0 [(1,ai e),(10,zH zR a.sub_ .no),(11,ai (a.sub_.length:Int)),(12,ai b)]) (⟨[],0,[],0,[]⟩) (fQ 0 (nQ 0 f393 (ai r) [] 0) [.blk 0,.seq (pt 63 f393)]))):=by
 intro c
 induction c with
 |zero=>
  exact⟨fun h=>nn h,fun h=>nn h⟩
 |succ c ih=>
  obtain⟨zTu,zAH⟩:=ih
  refine⟨?_,?_⟩
  intro a d r h
  rw[zHX]at h
  exact⟨tH ⟨func393,rfl⟩ 3 [] [] [] [1,10,11,12] (oD (zL a.sub_) o0) (zAH h),⟨⟨tv,tv,tv,tv,⟨tv,zL _⟩,tv⟩,tv,tv⟩,zB,tv,zB⟩
  intro a e b r h
  rw[cS]at h
  obtain⟨h1,h⟩|⟨h1,h⟩:=xA h
  obtain⟨x2,h3,h⟩:=zD h
  have k:=oA 0 (eS (o:=.no) h3)<|oB 0 h1 o0
  obtain⟨h4,h⟩:=zT h
  obtain⟨r5,h6,h⟩:=zD h
  exact fun j=>lH 1 [] [] [] [1,10,11,12] (oD (zL a.sub_)<|oC 1 [] (zTu h6)<|oB 2 h4 k) (zAH h)
  obtain rfl:=sj h
  exact fun j=>lF 0 [] (oB 0 h1 o0)
theorem zWh{c a d r}(h:zHX c a d=some r):zTv a d r Ct:=(zAG _).1 h
def zPv(b:Nat)(a:zO):Option Int:=
 zHX b a 0>>=fun r1=>
 some r1
theorem zWg{b a r}(h:zPv b a=some r):Ct 310 [] [xP a] (ai r) [] 0:=⟨by
 unfold zPv at h
 obtain⟨r1,h2,h⟩:=zD h
 obtain rfl:=sj h
 exact tF ⟨func310,rfl⟩ 0 [] (oC 1 [] (zWh h2) o0),⟨⟨tv,tv,tv,tv,⟨tv,zL _⟩,tv⟩,tv⟩,zB,tv,zB⟩
mutual
def zHY:Nat->zO->Int->Option Int
 |0,_,_=>none
 |d+1,a,b=>
 if decide (b>128)then
 none
 else
 cT d a b 0 b
def cT:Nat->zO->Int->Int->Int->Option Int
 |0,_,_,_,_=>none
 |d+1,a,b,c,e=>
 if decide (c<(a.sub_.length:Int))then
 yG a.sub_ c>>=fun x3=>
 zHY d x3 (xE (b+1))>>=fun r5=>
 cT d a b (xE (c+1)) (X4 e r5)
 else
 some e
end
abbrev zTt (a:zO) (b r:Int) (C:Cf):Prop:=C 311 [] [xP a,ai b] (ai r) [] 0
theorem zAI:∀d:Nat,(∀ {a b r},zHY d a b=some r->zTt a b r Ct)∧(∀ {a b c e r},cT d a b c e=some r->(∀j,dL 0 (pt 16309 f311) (sp j 27 0 [(1,ai b),(5,ai e),(13,zH zR a.sub_ .no),(14,ai (a.sub_.length:Int)),(15,ai c)]) (⟨[],0,[],0,[]⟩) (fQ 0 (nQ 0 f311 (ai r) [] 0) [.blk 0,.seq (pt 255 f311)]))):=by
 intro d
 induction d with
 |zero=>
  exact⟨fun h=>nn h,fun h=>nn h⟩
 |succ d ih=>
  obtain⟨zTs,zAJ⟩:=ih
  refine⟨?_,?_⟩
  intro a b r h
  rw[zHY]at h
  obtain⟨h1,h⟩:=zT h
  exact⟨tH ⟨func311,rfl⟩ 2 [] [] [] [1,5,13,14,15] (oD (zL a.sub_)<|oB 0 h1 o0) (zAJ h),⟨⟨tv,tv,tv,tv,⟨tv,zL _⟩,tv⟩,tv,tv⟩,zB,tv,zB⟩
  intro a b c e r h
  rw[cT]at h
  obtain⟨h2,h⟩|⟨h2,h⟩:=xA h
  obtain⟨x3,h4,h⟩:=zD h
  obtain⟨r5,h6,h⟩:=zD h
  exact fun j=>lH 2 [] [] [] [1,5,13,14,15] (oD (zL a.sub_)<|oC 4 [] (zTs h6)<|oA 0 (eS (o:=.no) h4)<|oB 0 h2 o0) (zAJ h)
  obtain rfl:=sj h
  exact fun j=>lF 0 [] (oB 0 h2 o0)
theorem zWf{d a b r}(h:zHY d a b=some r):zTt a b r Ct:=(zAI _).1 h
def zLy(b:Nat)(a:zO):Option Int:=
 zPv b a>>=fun r1=>
 if decide (r1>8192)then
 none
 else
 zHY b a 1>>=fun r4=>
 some r4
theorem zTr{b a r}(h:zLy b a=some r):Ct 215 [] [xP a] (ai r) [] 0:=⟨by
 unfold zLy at h
 obtain⟨r1,h2,h⟩:=zD h
 have k:=oC 1 [] (zWg h2) o0
 obtain⟨h3,h⟩:=zT h
 obtain⟨r4,h5,h⟩:=zD h
 obtain rfl:=sj h
 exact tF ⟨func215,rfl⟩ 0 [] (oC 1 [] (zWf h5)<|oB 0 h3 k),⟨⟨tv,tv,tv,tv,⟨tv,zL _⟩,tv⟩,tv⟩,zB,tv,zB⟩
def zLx(f:Nat)(c:List yK)(d b a:Int)(e:zO)(g:Int):Option (zO×Int×Int):=
 if a==0 then
 zLy f e>>=fun r2=>
 if decide (r2>128)then
 none
 else
 some (e,b,a)
 else
 none
theorem zTq{f c d b a e g r}(h:zLx f c d b a e g=some r):Ct 135 [.cells [zH yA c .no,ai d,ai b,ai a]] [.mp 0 0,xP e,ai g] (xP r.1) [.cells [zH yA c .no,ai d,ai r.2.1,ai r.2.2]] 0:=⟨by
 unfold zLx at h
 obtain⟨h1,h⟩:=xD h
 obtain⟨r2,h3,h⟩:=zD h
 have k:=oC 1 [] (zTr h3)<|oB 1 h1 o0
 obtain⟨h4,h⟩:=zT h
 cases h
 exact tF ⟨func135,rfl⟩ 2 [0] (oD (zL e.sub_)<|oD (zP c)<|oB 0 h4 k),⟨(lz rfl),⟨tv,tv,tv,tv,⟨tv,zL _⟩,tv⟩,tv,tv⟩,(zA ⟨⟨tv,zP _⟩,tv,tv,tv,tv⟩ zB),⟨tv,tv,tv,tv,zL _,tv⟩,(zA ⟨zP _,tv,tv,tv,tv⟩ zB)⟩
def zLw(e:Nat)(c:List yK)(d b a:Int):Option Bool:=
 pR e c d b a 0 (⟨#[40]⟩:ByteArray)>>=fun r1=>
 if r1 then
 cD e c d b a 1>>=fun r4=>
 if r4.kind_==1 then
 pR e c d b a 2 (⟨#[58]⟩:ByteArray)>>=fun r7=>
 some r7
 else
 none
 else
 some false
theorem zTp:Qf 217 f217:=⟨func217,rfl⟩
theorem zPu{e c d b a r}(h:zLw e c d b a=some r):Ct 217 [.cells [zH yA c .no,ai d,ai b,ai a]] [.mp 0 0] (ab r) [.cells [zH yA c .no,ai d,ai b,ai a]] 0:=⟨by
 unfold zLw at h
 obtain⟨r1,h2,h⟩:=zD h
 obtain⟨h3,h⟩|⟨h3,h⟩:=xA h
 obtain⟨r4,h5,h⟩:=zD h
 have k:=oC 0 [0] (E2 h5)<|oK 0 [0] h3 (sV h2) o0
 obtain⟨h6,h⟩:=xD h
 obtain⟨r7,h8,h⟩:=zD h
 obtain rfl:=sj h
 exact tF zTp 0 [0] (oD (zP c)<|oC 0 [0] (sV h8)<|oB 0 h6 k)
 obtain rfl:=sj h
 exact tF zTp 0 [0] (oD (zP c)<|oK 0 [0] h3 (sV h2) o0),⟨(lz rfl),tv⟩,(zA ⟨⟨tv,zP _⟩,tv,tv,tv,tv⟩ zB),tv,(zA ⟨zP _,tv,tv,tv,tv⟩ zB)⟩
def zPt(e:Nat)(c:List yK)(d b a:Int):Option (ByteArray×Int×Int×Int):=
 cD e c d b a 0>>=fun r1=>
 if r1.kind_==1 then
 if a==0 then
 cD e c (xE (d+1)) b a (-1)>>=fun r5=>
 some (r5.text_,(xE (d+1)),b,a)
 else
 none
 else
 none
theorem zWe{e c d b a r}(h:zPt e c d b a=some r):Ct 312 [.cells [zH yA c .no,ai d,ai b,ai a]] [.mp 0 0] (at' r.1) [.cells [zH yA c .no,ai r.2.1,ai r.2.2.1,ai r.2.2.2]] 0:=⟨by
 unfold zPt at h
 obtain⟨r1,h2,h⟩:=zD h
 have k:=oC 0 [0] (E2 h2) o0
 obtain⟨h3,h⟩:=xD h
 have k:=oB 0 h3 k
 obtain⟨h4,h⟩:=xD h
 obtain⟨r5,h6,h⟩:=zD h
 cases h
 exact tF ⟨func312,rfl⟩ 0 [0] (oD (zP c)<|oC 3 [0] (E2 h6)<|oB 1 h4 k),⟨(lz rfl),tv⟩,(zA ⟨⟨tv,zP _⟩,tv,tv,tv,tv⟩ zB),tv,(zA ⟨zP _,tv,tv,tv,tv⟩ zB)⟩
def zPs(e:Nat)(b:List yK)(d c a:Int):Option Bool:=
 zHV e b d c a 0>>=fun r1=>
 if r1 then
 some true
 else
 pR e b d c a 0 (⟨#[83,101,116]⟩:ByteArray)>>=fun r4=>
 if r4 then
 none
 else
 pR e b d c a 0 (⟨#[40]⟩:ByteArray)>>=fun r7=>
 if r7 then
 zLw e b d c a>>=fun r10=>
 some (!r10)
 else
 some false
theorem zPr:Qf 314 f314:=⟨func314,rfl⟩
theorem zLv{e b d c a r}(h:zPs e b d c a=some r):Ct 314 [.cells [zH yA b .no,ai d,ai c,ai a]] [.mp 0 0] (ab r) [.cells [zH yA b .no,ai d,ai c,ai a]] 0:=⟨by
 unfold zPs at h
 obtain⟨r1,h2,h⟩:=zD h
 obtain⟨h3,h⟩|⟨h3,h⟩:=xA h
 cases h
 exact tF zPr 0 [0] (oD (zP b)<|oK 0 [0] h3 (zLz h2) o0)
 obtain⟨r4,h5,h⟩:=zD h
 have k:=oK 0 [0] h3 (zLz h2) o0
 obtain⟨h6,h⟩:=zT h
 obtain⟨r7,h8,h⟩:=zD h
 have k:=oK 0 [0] h6 (sV h5) k
 obtain⟨h9,h⟩|⟨h9,h⟩:=xA h
 obtain⟨r10,h11,h⟩:=zD h
 cases h
 exact tF zPr 1 [0] (oD (zP b)<|oC 0 [0] (zPu h11)<|oK 0 [0] h9 (sV h8) k)
 cases h
 exact tF zPr 0 [0] (oD (zP b)<|oK 0 [0] h9 (sV h8) k),⟨(lz rfl),tv⟩,(zA ⟨⟨tv,zP _⟩,tv,tv,tv,tv⟩ zB),tv,(zA ⟨zP _,tv,tv,tv,tv⟩ zB)⟩
def zPq(e:Nat)(c:List yK)(d b a:Int):Option (zO×Int×Int×Int):=
 cD e c d b a 0>>=fun r1=>
 cD e c (xE (d+1)) b a 0>>=fun r3=>
 if r3.kind_==3 then
 cD e c (xE (d+1)) b a 0>>=fun r6=>
 zKX e r6.text_>>=fun r8=>
 if decide (r8.1>7)then
 none
 else
 some ((zO.mk 2 r1.at_ (⟨#[]⟩:ByteArray) r8.1 []),(xE ((xE (d+1))+1)),b,a)
 else
 some ((zO.mk 2 r1.at_ (⟨#[]⟩:ByteArray) 0 []),(xE (d+1)),b,a)
theorem zTo:Qf 394 f394:=⟨func394,rfl⟩
theorem zWd{e c d b a r}(h:zPq e c d b a=some r):Ct 394 [.cells [zH yA c .no,ai d,ai b,ai a]] [.mp 0 0] (xP r.1) [.cells [zH yA c .no,ai r.2.1,ai r.2.2.1,ai r.2.2.2]] 0:=⟨by
 unfold zPq at h
 have z {os ob} (k:Oz os ob):=oD (zL ([]:List zO))<|oD (zP c)<|k
 obtain⟨r1,h2,h⟩:=zD h
 obtain⟨r3,h4,h⟩:=zD h
 have k:=oC 4 [0] (E2 h4)<|oC 0 [0] (E2 h2) o0
 obtain⟨h5,h⟩|⟨h5,h⟩:=xA h
 obtain⟨r6,h7,h⟩:=zD h
 obtain⟨r8,h9,h⟩:=zD h
 have k:=oC 0 [] (zTx h9)<|oC 0 [0] (E2 h7)<|oB 0 h5 k
 obtain⟨h10,h⟩:=zT h
 cases h
 exact tF zTo 6 [0] (z<|oB 2 h10 k)
 cases h
 exact tF zTo 2 [0] (z<|oB 0 h5 k),⟨(lz rfl),tv⟩,(zA ⟨⟨tv,zP _⟩,tv,tv,tv,tv⟩ zB),⟨tv,tv,tv,tv,zL _,tv⟩,(zA ⟨zP _,tv,tv,tv,tv⟩ zB)⟩
mutual
def zAK:Nat->List yK->Int->Int->Int->Option (zO×Int×Int×Int)
 |0,_,_,_,_=>none
 |n+1,b,d,c,a=>
 cD n b d c a 0>>=fun r1=>
 if a != 0 then
 none
 else
 pR n b d c a 0 (⟨#[92]⟩:ByteArray)>>=fun r4=>
 if r4 then
 none
 else
 zLw n b d c a>>=fun r9=>
 if r9 then
 zPp n b d c a 3 r1.at_>>=fun r12=>
 some (r12.1,r12.2.1,r12.2.2.1,r12.2.2.2)
 else
 zPo n b d c a>>=fun r14=>
 if r14.2.2.2==0 then
 pR n b r14.2.1 r14.2.2.1 r14.2.2.2 0 (⟨#[45,62]⟩:ByteArray)>>=fun r17=>
 if r17 then
 zAK n b (xE (r14.2.1+1)) r14.2.2.1 r14.2.2.2>>=fun r20=>
 some ((zO.mk 3 r14.1.at_ (⟨#[95]⟩:ByteArray) 0 [r14.1,r20.1]),r20.2.1,r20.2.2.1,r20.2.2.2)
 else
 some (r14.1,r14.2.1,r14.2.2.1,r14.2.2.2)
 else
 none
def zPp:Nat->List yK->Int->Int->Int->Int->Int->Option (zO×Int×Int×Int)
 |0,_,_,_,_,_,_=>none
 |n+1,b,d,c,a,t,u=>
 e76 n b d c a (⟨#[40]⟩:ByteArray)>>=fun r1=>
 zPt n b r1.1 r1.2.1 r1.2.2>>=fun r3=>
 e76 n b r3.2.1 r3.2.2.1 r3.2.2.2 (⟨#[58]⟩:ByteArray)>>=fun r5=>
 zAK n b r5.1 r5.2.1 r5.2.2>>=fun r7=>
 e76 n b r7.2.1 r7.2.2.1 r7.2.2.2 (⟨#[41]⟩:ByteArray)>>=fun r9=>
 e76 n b r9.1 r9.2.1 r9.2.2 (⟨#[45,62]⟩:ByteArray)>>=fun r11=>
 zAK n b r11.1 r11.2.1 r11.2.2>>=fun r13=>
 some ((zO.mk t u r3.1 0 [r7.1,r13.1]),r13.2.1,r13.2.2.1,r13.2.2.2)
def zPo:Nat->List yK->Int->Int->Int->Option (zO×Int×Int×Int)
 |0,_,_,_,_=>none
 |n+1,b,d,c,a=>
 zLu n b d c a>>=fun r1=>
 cU n b r1 r1.2.1 r1.2.2.1 r1.2.2.2 r1.1.kind_ r1.1.name_ r1.1.n_ r1.1.sub_
def cU:Nat->List yK->(zO×Int×Int×Int)->Int->Int->Int->Int->ByteArray->Int->List zO->Option (zO×Int×Int×Int)
 |0,_,_,_,_,_,_,_,_,_=>none
 |n+1,b,r1,q,s,p,f,g,m,e=>
 if p==0 then
 zPs n b q s p>>=fun r4=>
 if r4 then
 zLu n b q s p>>=fun r7=>
 cU n b r1 r7.2.1 r7.2.2.1 r7.2.2.2 5 (⟨#[]⟩:ByteArray) 0 [(zO.mk f r1.1.at_ g m e),r7.1]
 else
 some ((zO.mk f r1.1.at_ g m e),q,s,p)
 else
 none
def zLu:Nat->List yK->Int->Int->Int->Option (zO×Int×Int×Int)
 |0,_,_,_,_=>none
 |n+1,b,d,c,a=>
 if a != 0 then
 none
 else
 pR n b d c a 0 (⟨#[83,101,116]⟩:ByteArray)>>=fun r2=>
 if r2 then
 zPq n b d c a>>=fun r5=>
 some (r5.1,r5.2.1,r5.2.2.1,r5.2.2.2)
 else
 pR n b d c a 0 (⟨#[40]⟩:ByteArray)>>=fun r7=>
 if r7 then
 zAK n b (xE (d+1)) c a>>=fun r10=>
 e76 n b r10.2.1 r10.2.2.1 r10.2.2.2 (⟨#[41]⟩:ByteArray)>>=fun r12=>
 some (r10.1,r12.1,r12.2.1,r12.2.2)
 else
 cD n b d c a 0>>=fun r14=>
 e72 n b d c a>>=fun r16=>
 some ((zO.mk 1 r14.at_ r16.1 0 []),r16.2.1,r16.2.2.1,r16.2.2.2)
end
abbrev zLt (b:List yK) (d c a:Int) (r:zO×Int×Int×Int) (C:Cf):Prop:=C 136 [.cells [zH yA b .no,ai d,ai c,ai a]] [.mp 0 0] (xP r.1) [.cells [zH yA b .no,ai r.2.1,ai r.2.2.1,ai r.2.2.2]] 0
abbrev zWc (b:List yK) (d c a t u:Int) (r:zO×Int×Int×Int) (C:Cf):Prop:=C 216 [.cells [zH yA b .no,ai d,ai c,ai a]] [.mp 0 0,ai t,ai u] (xP r.1) [.cells [zH yA b .no,ai r.2.1,ai r.2.2.1,ai r.2.2.2]] 0
abbrev zWb (b:List yK) (d c a:Int) (r:zO×Int×Int×Int) (C:Cf):Prop:=C 218 [.cells [zH yA b .no,ai d,ai c,ai a]] [.mp 0 0] (xP r.1) [.cells [zH yA b .no,ai r.2.1,ai r.2.2.1,ai r.2.2.2]] 0
abbrev zPn (b:List yK) (d c a:Int) (r:zO×Int×Int×Int) (C:Cf):Prop:=C 313 [.cells [zH yA b .no,ai d,ai c,ai a]] [.mp 0 0] (xP r.1) [.cells [zH yA b .no,ai r.2.1,ai r.2.2.1,ai r.2.2.2]] 0
theorem zPm:Qf 136 f136:=⟨func136,rfl⟩
theorem zPl{b d c a r}(h:zLt b d c a r Ci):zLt b d c a r Ct:=⟨h,⟨(lz rfl),tv⟩,(zA ⟨⟨tv,zP _⟩,tv,tv,tv,tv⟩ zB),⟨tv,tv,tv,tv,zL _,tv⟩,(zA ⟨zP _,tv,tv,tv,tv⟩ zB)⟩
theorem zPk:Qf 313 f313:=⟨func313,rfl⟩
theorem zPj{b d c a r}(h:zPn b d c a r Ci):zPn b d c a r Ct:=⟨h,⟨(lz rfl),tv⟩,(zA ⟨⟨tv,zP _⟩,tv,tv,tv,tv⟩ zB),⟨tv,tv,tv,tv,zL _,tv⟩,(zA ⟨zP _,tv,tv,tv,tv⟩ zB)⟩
theorem oY:∀n:Nat,(∀ {b d c a r},zAK n b d c a=some r->zLt b d c a r Ct)∧(∀ {b d c a t u r},zPp n b d c a t u=some r->zWc b d c a t u r Ct)∧(∀ {b d c a r},zPo n b d c a=some r->zWb b d c a r Ct)∧(∀ {b r1 q s p f g m e r},cU n b r1 q s p f g m e=some r->(∀j,dL 1 (pt 997 f218) (sp j 23 0 [(0,.mp 0 0),(2,.mp 1 0),(3,.mp 2 0)]) (⟨[(0,.cells [zH yA b .no,ai q,ai s,ai p]),(1,.cells [ai 0,ai 0,at' (⟨#[]⟩:ByteArray),ai 0,zH zR ([]:List zO) .nl]),(2,.cells [ai f,ai r1.1.at_,at' g,ai m,zH zR e .no])],3,[],0,[]⟩) (fQ 1 (nQ 1 f218 (xP r.1) [.cells [zH yA b .no,ai r.2.1,ai r.2.2.1,ai r.2.2.2]] 0) [.blk 0,.seq (pt 63 f218)]))∧(∀j,dL 1 (pt 997 f218) (sp j 23 0 [(0,.mp 0 0),(2,.mp 1 0),(3,.mp 2 0)]) (⟨[(0,.cells [zH yA b .no,ai q,ai s,ai p]),(1,.cells [ai 0,ai 0,at' (⟨#[]⟩:ByteArray),ai 0,zH zR ([]:List zO) .nl]),(2,.cells [ai f,ai r1.1.at_,at' g,ai m,zH zR e .full])],3,[],0,[]⟩) (fQ 1 (nQ 1 f218 (xP r.1) [.cells [zH yA b .no,ai r.2.1,ai r.2.2.1,ai r.2.2.2]] 0) [.blk 0,.seq (pt 63 f218)])))∧(∀ {b d c a r},zLu n b d c a=some r->zPn b d c a r Ct):=by
 intro n
 induction n with
 |zero=>
  exact⟨fun h=>nn h,fun h=>nn h,fun h=>nn h,fun h=>nn h,fun h=>nn h⟩
 |succ n ih=>
  obtain⟨zEo,zTn,zTm,E4,zHZ⟩:=ih
  refine⟨?_,?_,?_,?_,?_⟩
  intro b d c a r h
  rw[zAK]at h
  obtain⟨r1,h2,h⟩:=zD h
  have k:=oC 0 [0] (E2 h2) o0
  obtain⟨h3,h⟩:=zT h
  obtain⟨r4,h5,h⟩:=zD h
  have k:=oB 1 h3 k
  obtain⟨h6,h⟩:=zT h
  obtain⟨r9,h10,h⟩:=zD h
  have k:=oK 0 [0] h6 (sV h5) k
  obtain⟨h11,h⟩|⟨h11,h⟩:=xA h
  obtain⟨r12,h13,h⟩:=zD h
  cases h
  exact zPl (tF zPm 1 [0] (oD (zL r12.1.sub_)<|oD (zP b)<|oC 0 [0] (zTn h13)<|oK 0 [0] h11 (zPu h10) k))
  obtain⟨r14,h15,h⟩:=zD h
  have k:=oC 0 [0] (zTm h15)<|oK 0 [0] h11 (zPu h10) k
  obtain⟨h16,h⟩:=xD h
  obtain⟨r17,h18,h⟩:=zD h
  have k:=oB 2 h16 k
  obtain⟨h19,h⟩|⟨h19,h⟩:=xA h
  obtain⟨r20,h21,h⟩:=zD h
  cases h
  exact zPl (tF zPm 1 [0] (oD (zL [r14.1,r20.1])<|oD (zP b)<|oS 0 (xL vU [r14.1,r20.1])<|oC 1 [0] (zEo h21)<|rF 3<|oK 0 [0] h19 (sV h18) k))
  cases h
  exact zPl (tF zPm 2 [0] (oD (zL r14.1.sub_)<|oD (zP b)<|oK 0 [0] h19 (sV h18) k))
  intro b d c a t u r h
  rw[zPp]at h
  obtain⟨r1,h2,h⟩:=zD h
  obtain⟨r3,h4,h⟩:=zD h
  obtain⟨r5,h6,h⟩:=zD h
  obtain⟨r7,h8,h⟩:=zD h
  obtain⟨r9,h10,h⟩:=zD h
  obtain⟨r11,h12,h⟩:=zD h
  obtain⟨r13,h14,h⟩:=zD h
  cases h
  exact⟨tF ⟨func216,rfl⟩ 3 [0] (oD (zL [r7.1,r13.1])<|oD (zP b)<|oS 0 (xL vU [r7.1,r13.1])<|oC 1 [0] (zEo h14)<|oC 0 [0] (c76 h12)<|oC 1 [0] (c76 h10)<|oC 0 [0] (zEo h8)<|oC 1 [0] (c76 h6)<|oC 0 [0] (zWe h4)<|oC 1 [0] (c76 h2) o0),⟨(lz rfl),tv,tv,tv⟩,(zA ⟨⟨tv,zP _⟩,tv,tv,tv,tv⟩ zB),⟨tv,tv,tv,tv,zL _,tv⟩,(zA ⟨zP _,tv,tv,tv,tv⟩ zB)⟩
  intro b d c a r h
  rw[zPo]at h
  obtain⟨r1,h2,h⟩:=zD h
  exact⟨tH ⟨func218,rfl⟩ 1 [] [0,1,2] [] [0,2,3] (oD (zL r1.1.sub_)<|oD (zL ([]:List zO))<|oD (zP b)<|oC 0 [0] (zHZ h2) o0) ((E4 h).1),⟨(lz rfl),tv⟩,(zA ⟨⟨tv,zP _⟩,tv,tv,tv,tv⟩ zB),⟨tv,tv,tv,tv,zL _,tv⟩,(zA ⟨zP _,tv,tv,tv,tv⟩ zB)⟩
  intro b r1 q s p f g m e r h
  rw[cU]at h
  have z {os ob} (k:Oz os ob):=oD (zL ([]:List zO))<|oD (zP b)<|k
  refine⟨?_,?_⟩
  obtain⟨h3,h⟩:=xD h
  obtain⟨r4,h5,h⟩:=zD h
  have k:=oB 1 h3 o0
  obtain⟨h6,h⟩|⟨h6,h⟩:=xA h
  obtain⟨r7,h8,h⟩:=zD h
  exact fun j=>lH 1 [] [0,1,2] [] [0,2,3] (oD (zL [(zO.mk f r1.1.at_ g m e),r7.1])<|z<|oS 0 (xL vU [(zO.mk f r1.1.at_ g m e),r7.1])<|oC 1 [0] (zHZ h8)<|rF 0<|oK 0 [0] h6 (zLv h5) k) ((E4 h).2)
  cases h
  exact fun j=>lF 2 [0] (oD (zL e)<|oD (zP b)<|oK 0 [0] h6 (zLv h5) k)
  obtain⟨h3,h⟩:=xD h
  obtain⟨r4,h5,h⟩:=zD h
  have k:=oB 1 h3 o0
  obtain⟨h6,h⟩|⟨h6,h⟩:=xA h
  obtain⟨r7,h8,h⟩:=zD h
  exact fun j=>lH 1 [] [0,1,2] [] [0,2,3] (oD (zL [(zO.mk f r1.1.at_ g m e),r7.1])<|z<|oS 0 (xL vU [(zO.mk f r1.1.at_ g m e),r7.1])<|oC 1 [0] (zHZ h8)<|rF 0<|oK 0 [0] h6 (zLv h5) k) ((E4 h).2)
  cases h
  exact fun j=>lF 2 [0] (oD (zL e)<|oD (zP b)<|oK 0 [0] h6 (zLv h5) k)
  intro b d c a r h
  rw[zLu]at h
  obtain⟨h1,h⟩:=zT h
  obtain⟨r2,h3,h⟩:=zD h
  have k:=oB 1 h1 o0
  obtain⟨h4,h⟩|⟨h4,h⟩:=xA h
  obtain⟨r5,h6,h⟩:=zD h
  cases h
  exact zPj (tF zPk 1 [0] (oD (zL r5.1.sub_)<|oD (zP b)<|oC 0 [0] (zWd h6)<|oK 0 [0] h4 (sV h3) k))
  obtain⟨r7,h8,h⟩:=zD h
  have k:=oK 0 [0] h4 (sV h3) k
  obtain⟨h9,h⟩|⟨h9,h⟩:=xA h
  obtain⟨r10,h11,h⟩:=zD h
  obtain⟨r12,h13,h⟩:=zD h
  cases h
  exact zPj (tF zPk 2 [0] (oD (zL r10.1.sub_)<|oD (zP b)<|oC 1 [0] (c76 h13)<|oC 3 [0] (zEo h11)<|oK 0 [0] h9 (sV h8) k))
  obtain⟨r14,h15,h⟩:=zD h
  obtain⟨r16,h17,h⟩:=zD h
  cases h
  exact zPj (tF zPk 1 [0] (oD (zL ([]:List zO))<|oD (zP b)<|oC 0 [0] (c72 h17)<|oC 0 [0] (E2 h15)<|oK 0 [0] h9 (sV h8) k))
theorem zWa{n b d c a r}(h:zAK n b d c a=some r):zLt b d c a r Ct:=(oY _).1 h
def e77(e:Nat)(b:List yK)(d c a:Int):Option (zO×Int×Int×Int):=
 cD e b d c a 0>>=fun r1=>
 zAK e b d c a>>=fun r3=>
 zLx e b r3.2.1 r3.2.2.1 r3.2.2.2 r3.1 r1.at_>>=fun r5=>
 some (r5.1,r3.2.1,r5.2.1,r5.2.2)
theorem c77{e b d c a r}(h:e77 e b d c a=some r):Ct 77 [.cells [zH yA b .no,ai d,ai c,ai a]] [.mp 0 0] (xP r.1) [.cells [zH yA b .no,ai r.2.1,ai r.2.2.1,ai r.2.2.2]] 0:=⟨by
 unfold e77 at h
 obtain⟨r1,h2,h⟩:=zD h
 obtain⟨r3,h4,h⟩:=zD h
 obtain⟨r5,h6,h⟩:=zD h
 cases h
 exact tF ⟨func77,rfl⟩ 1 [0] (oD (zL r5.1.sub_)<|oD (zP b)<|oC 0 [0] (zTq h6)<|oC 0 [0] (zWa h4)<|oC 0 [0] (E2 h2) o0),⟨(lz rfl),tv⟩,(zA ⟨⟨tv,zP _⟩,tv,tv,tv,tv⟩ zB),⟨tv,tv,tv,tv,zL _,tv⟩,(zA ⟨zP _,tv,tv,tv,tv⟩ zB)⟩
def zLs(e:Nat)(c:List yK)(d b a:Int):Option Bool:=
 cD e c d b a 0>>=fun r1=>
 if r1.kind_==1 then
 some true
 else
 pR e c d b a 0 (⟨#[46]⟩:ByteArray)>>=fun r4=>
 if r4 then
 none
 else
 pR e c d b a 0 (⟨#[40]⟩:ByteArray)>>=fun r7=>
 some r7
theorem zTl:Qf 315 f315:=⟨func315,rfl⟩
theorem zLr{e c d b a r}(h:zLs e c d b a=some r):Ct 315 [.cells [zH yA c .no,ai d,ai b,ai a]] [.mp 0 0] (ab r) [.cells [zH yA c .no,ai d,ai b,ai a]] 0:=⟨by
 unfold zLs at h
 obtain⟨r1,h2,h⟩:=zD h
 have k:=oC 0 [0] (E2 h2) o0
 obtain⟨h3,h⟩|⟨h3,h⟩:=xA h
 obtain rfl:=sj h
 exact tF zTl 0 [0] (oD (zP c)<|oB 0 h3 k)
 obtain⟨r4,h5,h⟩:=zD h
 have k:=oB 0 h3 k
 obtain⟨h6,h⟩:=zT h
 obtain⟨r7,h8,h⟩:=zD h
 obtain rfl:=sj h
 exact tF zTl 0 [0] (oD (zP c)<|oC 0 [0] (sV h8)<|oK 0 [0] h6 (sV h5) k),⟨(lz rfl),tv⟩,(zA ⟨⟨tv,zP _⟩,tv,tv,tv,tv⟩ zB),tv,(zA ⟨zP _,tv,tv,tv,tv⟩ zB)⟩
mutual
def zIz:Nat->List yK->Int->Int->Int->Option (zO×Int×Int×Int)
 |0,_,_,_,_=>none
 |n+1,b,d,c,a=>
 cD n b d c a 0>>=fun r1=>
 if a != 0 then
 none
 else
 pR n b d c a 0 (⟨#[40]⟩:ByteArray)>>=fun r4=>
 if r4 then
 zPi n b d c a>>=fun r7=>
 some (r7.1,r7.2.1,r7.2.2.1,r7.2.2.2)
 else
 pR n b d c a 0 (⟨#[46]⟩:ByteArray)>>=fun r9=>
 if r9 then
 none
 else
 cD n b d c a 0>>=fun r14=>
 if r14.kind_==1 then
 cD n b d c a 0>>=fun r17=>
 if r17.text_.toList==(⟨#[95]⟩:ByteArray).toList then
 none
 else
 e72 n b d c a>>=fun r20=>
 some ((zO.mk 6 r1.at_ r20.1 0 []),r20.2.1,r20.2.2.1,r20.2.2.2)
 else
 none
def zPi:Nat->List yK->Int->Int->Int->Option (zO×Int×Int×Int)
 |0,_,_,_,_=>none
 |n+1,b,d,c,a=>
 cD n b d c a 0>>=fun r1=>
 pR n b (xE (d+1)) c a 0 (⟨#[41]⟩:ByteArray)>>=fun r3=>
 if r3 then
 some ((zO.mk 9 r1.at_ (⟨#[]⟩:ByteArray) 0 []),(xE ((xE (d+1))+1)),c,a)
 else
 zHV n b (xE (d+1)) c a 0>>=fun r6=>
 if r6 then
 cD n b (xE (d+1)) c a 0>>=fun r9=>
 e72 n b (xE (d+1)) c a>>=fun r11=>
 cV n b r1 r11 r11.2.1 r11.2.2.1 r11.2.2.2 6 r9.at_ []
 else
 none
def cV:Nat->List yK->yK->(ByteArray×Int×Int×Int)->Int->Int->Int->Int->Int->List zO->Option (zO×Int×Int×Int)
 |0,_,_,_,_,_,_,_,_,_=>none
 |n+1,b,r1,r11,f,g,e,p,q,m=>
 if e==0 then
 zLs n b f g e>>=fun r14=>
 if r14 then
 zIz n b f g e>>=fun r17=>
 yV 64 m [r17.1]>>=fun l19=>
 cV n b r1 r11 r17.2.1 r17.2.2.1 r17.2.2.2 8 r1.at_ l19
 else
 e76 n b f g e (⟨#[41]⟩:ByteArray)>>=fun r21=>
 some ((zO.mk p q r11.1 0 m),r21.1,r21.2.1,r21.2.2)
 else
 none
end
abbrev zLq (b:List yK) (d c a:Int) (r:zO×Int×Int×Int) (C:Cf):Prop:=C 316 [.cells [zH yA b .no,ai d,ai c,ai a]] [.mp 0 0] (xP r.1) [.cells [zH yA b .no,ai r.2.1,ai r.2.2.1,ai r.2.2.2]] 0
abbrev zPh (b:List yK) (d c a:Int) (r:zO×Int×Int×Int) (C:Cf):Prop:=C 395 [.cells [zH yA b .no,ai d,ai c,ai a]] [.mp 0 0] (xP r.1) [.cells [zH yA b .no,ai r.2.1,ai r.2.2.1,ai r.2.2.2]] 0
theorem zTk:Qf 316 f316:=⟨func316,rfl⟩
theorem zTj{b d c a r}(h:zLq b d c a r Ci):zLq b d c a r Ct:=⟨h,⟨(lz rfl),tv⟩,(zA ⟨⟨tv,zP _⟩,tv,tv,tv,tv⟩ zB),⟨tv,tv,tv,tv,zL _,tv⟩,(zA ⟨zP _,tv,tv,tv,tv⟩ zB)⟩
theorem zTi:Qf 395 f395:=⟨func395,rfl⟩
theorem zTh{b d c a r}(h:zPh b d c a r Ci):zPh b d c a r Ct:=⟨h,⟨(lz rfl),tv⟩,(zA ⟨⟨tv,zP _⟩,tv,tv,tv,tv⟩ zB),⟨tv,tv,tv,tv,zL _,tv⟩,(zA ⟨zP _,tv,tv,tv,tv⟩ zB)⟩
theorem cE:∀n:Nat,(∀ {b d c a r},zIz n b d c a=some r->zLq b d c a r Ct)∧(∀ {b d c a r},zPi n b d c a=some r->zPh b d c a r Ct)∧(∀ {b r1 r11 f g e p q m r},cV n b r1 r11 f g e p q m=some r->(∀j,dL 1 (pt 262117 f395) (sp j 63 0 [(0,.mp 0 0),(2,.mp 1 0),(3,ai r1.at_),(5,.mp 2 0)]) (⟨[(0,.cells [zH yA b .no,ai f,ai g,ai e]),(1,.cells [ai 0,ai 0,at' (⟨#[]⟩:ByteArray),ai 0,zH zR ([]:List zO) .nl]),(2,.cells [ai p,ai q,at' r11.1,ai 0,zH zR m (.st 0 5)])],3,[0],1,[]⟩) (fQ 1 (nQ 1 f395 (xP r.1) [.cells [zH yA b .no,ai r.2.1,ai r.2.2.1,ai r.2.2.2]] 0) [.blk 0,.seq (pt 16383 f395)]))):=by
 intro n
 induction n with
 |zero=>
  exact⟨fun h=>nn h,fun h=>nn h,fun h=>nn h⟩
 |succ n ih=>
  obtain⟨zTg,zTf,zAL⟩:=ih
  refine⟨?_,?_,?_⟩
  intro b d c a r h
  rw[zIz]at h
  obtain⟨r1,h2,h⟩:=zD h
  have k:=oC 0 [0] (E2 h2) o0
  obtain⟨h3,h⟩:=zT h
  obtain⟨r4,h5,h⟩:=zD h
  have k:=oB 1 h3 k
  obtain⟨h6,h⟩|⟨h6,h⟩:=xA h
  obtain⟨r7,h8,h⟩:=zD h
  cases h
  exact zTj (tF zTk 1 [0] (oD (zL r7.1.sub_)<|oD (zP b)<|oC 0 [0] (zTf h8)<|oK 0 [0] h6 (sV h5) k))
  obtain⟨r9,h10,h⟩:=zD h
  have k:=oK 0 [0] h6 (sV h5) k
  obtain⟨h11,h⟩:=zT h
  obtain⟨r14,h15,h⟩:=zD h
  have k:=oC 0 [0] (E2 h15)<|oK 0 [0] h11 (sV h10) k
  obtain⟨h16,h⟩:=xD h
  obtain⟨r17,h18,h⟩:=zD h
  have k:=oC 0 [0] (E2 h18)<|oB 0 h16 k
  obtain⟨h19,h⟩:=zT h
  obtain⟨r20,h21,h⟩:=zD h
  cases h
  exact zTj (tF zTk 1 [0] (oD (zL ([]:List zO))<|oD (zP b)<|oC 0 [0] (c72 h21)<|oB 0 h19 k))
  intro b d c a r h
  rw[zPi]at h
  have z {os ob} (k:Oz os ob):=oD (zL ([]:List zO))<|oD (zP b)<|k
  obtain⟨r1,h2,h⟩:=zD h
  obtain⟨r3,h4,h⟩:=zD h
  have k:=oC 0 [0] (E2 h2) o0
  obtain⟨h5,h⟩|⟨h5,h⟩:=xA h
  cases h
  exact zTh (tF zTi 4 [0] (z<|oK 3 [0] h5 (sV h4) k))
  obtain⟨r6,h7,h⟩:=zD h
  have k:=oK 3 [0] h5 (sV h4) k
  obtain⟨h8,h⟩:=xD h
  obtain⟨r9,h10,h⟩:=zD h
  obtain⟨r11,h12,h⟩:=zD h
  exact zTh (tH zTi 1 [(some 2,4,5)] [0,1,2] [0] [0,2,3,5] (oD (zL ([]:List zO))<|z<|oC 0 [0] (c72 h12)<|oC 1 [0] (E2 h10)<|oK 0 [0] h8 (zLz h7) k) (zAL h))
  intro b r1 r11 f g e p q m r h
  rw[cV]at h
  obtain⟨h13,h⟩:=xD h
  obtain⟨r14,h15,h⟩:=zD h
  have k:=oB 1 h13 o0
  obtain⟨h16,h⟩|⟨h16,h⟩:=xA h
  obtain⟨r17,h18,h⟩:=zD h
  obtain⟨l19,h20,h⟩:=zD h
  exact fun j=>lH 1 [] [0,1,2] [1] [0,2,3,5] (oD (zL l19)<|oD (zL ([]:List zO))<|oD (zP b)<|oP 0 (zNO h20 (by simp))<|oS 0 (xL vU [r17.1])<|oC 0 [0] (zTg h18)<|rF 2<|oK 0 [0] h16 (zLr h15) k) (zAL h)
  obtain⟨r21,h22,h⟩:=zD h
  cases h
  exact fun j=>lF 2 [0] (oD (zL m)<|oD (zP b)<|oC 0 [0] (c76 h22)<|oK 0 [0] h16 (zLr h15) k)
theorem zWA{n b d c a r}(h:zIz n b d c a=some r):zLq b d c a r Ct:=(cE _).1 h
def cW:Nat->List yK->List zO->Int->Int->Int->Option (List zO×Int×Int×Int)
 |0,_,_,_,_,_=>none
 |g+1,a,n,c,d,b=>
 if b==0 then
 zLs g a c d b>>=fun r2=>
 if r2 then
 cD g a c d b 0>>=fun r5=>
 if decide ((n.length:Int)≥24)then
 none
 else
 zIz g a c d b>>=fun r10=>
 zLx g a r10.2.1 r10.2.2.1 r10.2.2.2 r10.1 r5.at_>>=fun r12=>
 yV 64 n [r12.1]>>=fun l14=>
 cW g a l14 r10.2.1 r12.2.1 r12.2.2
 else
 some (n,c,d,b)
 else
 none
def zPg(g:Nat)(a:List yK)(m f e:Int):Option (List zO×Int×Int×Int):=
 cW g a [] m f e
theorem zLp:∀g:Nat,(∀ {a n c d b r},cW g a n c d b=some r->(∀j,dL 1 (pt 997 f219) (sp j 32 0 [(0,.mp 0 0),(3,zH zR n (.st 0 5))]) (⟨[(0,.cells [zH yA a .no,ai c,ai d,ai b])],1,[0],1,[]⟩) (fQ 1 (nQ 1 f219 (.sl (zF zR r.1) r.1.length .no) [.cells [zH yA a .no,ai r.2.1,ai r.2.2.1,ai r.2.2.2]] 0) [.blk 0,.seq (pt 63 f219)]))):=by
 intro g
 induction g with
 |zero=>
  exact fun h=>nn h
 |succ g ih=>
  intro a n c d b r h
  rw[cW]at h
  obtain⟨h1,h⟩:=xD h
  obtain⟨r2,h3,h⟩:=zD h
  have k:=oB 1 h1 o0
  obtain⟨h4,h⟩|⟨h4,h⟩:=xA h
  obtain⟨r5,h6,h⟩:=zD h
  have k:=oC 0 [0] (E2 h6)<|oK 0 [0] h4 (zLr h3) k
  obtain⟨h7,h⟩:=zT h
  obtain⟨r10,h11,h⟩:=zD h
  obtain⟨r12,h13,h⟩:=zD h
  obtain⟨l14,h15,h⟩:=zD h
  exact fun j=>lH 0 [] [0] [1] [0,3] (oD (zL l14)<|oD (zP a)<|oP 0 (zNO h15 (by simp))<|oS 0 (xL vU [r12.1])<|oC 0 [0] (zTq h13)<|oC 0 [0] (zWA h11)<|oB 1 h7 k) (ih h)
  cases h
  exact fun j=>lF 0 [0] (oD (zL n)<|oD (zP a)<|oK 0 [0] h4 (zLr h3) k)
theorem zWB{g a m f e r}(h:zPg g a m f e=some r):Ct 219 [.cells [zH yA a .no,ai m,ai f,ai e]] [.mp 0 0] (.sl (zF zR r.1) r.1.length .no) [.cells [zH yA a .no,ai r.2.1,ai r.2.2.1,ai r.2.2.2]] 0:=⟨by
 unfold zPg at h
 exact tH ⟨func219,rfl⟩ 0 [(none,3,5)] [0] [0] [0,3] (oD (zL ([]:List zO))<|oD (zP a) o0) (zLp _ h),⟨(lz rfl),tv⟩,(zA ⟨⟨tv,zP _⟩,tv,tv,tv,tv⟩ zB),zL _,(zA ⟨zP _,tv,tv,tv,tv⟩ zB)⟩
def zPf(e:Nat)(a:List yK)(d c b:Int):Option (xC×Int×Int×Int):=
 cD e a d c b 0>>=fun r1=>
 zPg e a d c b>>=fun r3=>
 if r3.2.2.2==0 then
 pR e a r3.2.1 r3.2.2.1 r3.2.2.2 0 (⟨#[61]⟩:ByteArray)>>=fun r6=>
 if r6 then
 e77 e a (xE (r3.2.1+1)) r3.2.2.1 r3.2.2.2>>=fun r9=>
 e76 e a r9.2.1 r9.2.2.1 r9.2.2.2 (⟨#[59]⟩:ByteArray)>>=fun r11=>
 some ((xC.mk r1.at_ r3.1 true r9.1),r11.1,r11.2.1,r11.2.2)
 else
 e76 e a r3.2.1 r3.2.2.1 r3.2.2.2 (⟨#[59]⟩:ByteArray)>>=fun r13=>
 some ((xC.mk r1.at_ r3.1 false (zO.mk 0 0 (⟨#[]⟩:ByteArray) 0 [])),r13.1,r13.2.1,r13.2.2)
 else
 none
theorem zTe:Qf 137 f137:=⟨func137,rfl⟩
theorem zWC{e a d c b r}(h:zPf e a d c b=some r):Ct 137 [.cells [zH yA a .no,ai d,ai c,ai b]] [.mp 0 0] (D7 r.1) [.cells [zH yA a .no,ai r.2.1,ai r.2.2.1,ai r.2.2.2]] 0:=⟨by
 unfold zPf at h
 obtain⟨r1,h2,h⟩:=zD h
 obtain⟨r3,h4,h⟩:=zD h
 have k:=oC 0 [0] (zWB h4)<|oC 0 [0] (E2 h2) o0
 obtain⟨h5,h⟩:=xD h
 obtain⟨r6,h7,h⟩:=zD h
 have k:=oB 2 h5 k
 obtain⟨h8,h⟩|⟨h8,h⟩:=xA h
 obtain⟨r9,h10,h⟩:=zD h
 obtain⟨r11,h12,h⟩:=zD h
 cases h
 exact tF zTe 2 [0] (oD (zL r9.1.sub_)<|oD (zL r3.1)<|oD (zP a)<|oC 2 [0] (c76 h12)<|oC 3 [0] (c77 h10)<|oK 0 [0] h8 (sV h7) k)
 obtain⟨r13,h14,h⟩:=zD h
 cases h
 exact tF zTe 2 [0] (oD (zL ([]:List zO))<|oD (zL r3.1)<|oD (zP a)<|oC 0 [0] (c76 h14)<|oK 0 [0] h8 (sV h7) k),⟨(lz rfl),tv⟩,(zA ⟨⟨tv,zP _⟩,tv,tv,tv,tv⟩ zB),⟨tv,zL _,tv,tv,tv,tv,tv,zL _,tv⟩,(zA ⟨zP _,tv,tv,tv,tv⟩ zB)⟩
def e79(e:Nat)(c:List yK)(d b a:Int):Option Bool:=
 pR e c d b a 0 (⟨#[125]⟩:ByteArray)>>=fun r1=>
 some (!r1)
theorem c79{e c d b a r}(h:e79 e c d b a=some r):Ct 79 [.cells [zH yA c .no,ai d,ai b,ai a]] [.mp 0 0] (ab r) [.cells [zH yA c .no,ai d,ai b,ai a]] 0:=⟨by
 unfold e79 at h
 obtain⟨r1,h2,h⟩:=zD h
 cases h
 exact tF ⟨func79,rfl⟩ 1 [0] (oD (zP c)<|oC 0 [0] (sV h2) o0),⟨(lz rfl),tv⟩,(zA ⟨⟨tv,zP _⟩,tv,tv,tv,tv⟩ zB),tv,(zA ⟨zP _,tv,tv,tv,tv⟩ zB)⟩
def Y6:Nat->List yK->List xC->Int->Int->Int->Option (List xC×Int×Int×Int)
 |0,_,_,_,_,_=>none
 |m+1,a,n,c,d,b=>
 if b==0 then
 e79 m a c d b>>=fun r2=>
 if r2 then
 if decide ((n.length:Int)≥32)then
 none
 else
 zPf m a c d b>>=fun r10=>
 yV 104 n [r10.1]>>=fun l12=>
 Y6 m a l12 r10.2.1 r10.2.2.1 r10.2.2.2
 else
 some (n,c,d,b)
 else
 none
def e78(m:Nat)(a:List yK)(g f e:Int):Option (List xC×Int×Int×Int):=
 Y6 m a [] g f e
theorem zPe:∀m:Nat,(∀ {a n c d b r},Y6 m a n c d b=some r->(∀j,dL 1 (pt 997 f78) (sp j 27 0 [(0,.mp 0 0),(3,zH yH n (.st 0 8))]) (⟨[(0,.cells [zH yA a .no,ai c,ai d,ai b])],1,[0],1,[]⟩) (fQ 1 (nQ 1 f78 (.sl (zF yH r.1) r.1.length .no) [.cells [zH yA a .no,ai r.2.1,ai r.2.2.1,ai r.2.2.2]] 0) [.blk 0,.seq (pt 63 f78)]))):=by
 intro m
 induction m with
 |zero=>
  exact fun h=>nn h
 |succ m ih=>
  intro a n c d b r h
  rw[Y6]at h
  obtain⟨h1,h⟩:=xD h
  obtain⟨r2,h3,h⟩:=zD h
  have k:=oB 1 h1 o0
  obtain⟨h4,h⟩|⟨h4,h⟩:=xA h
  have k:=oK 0 [0] h4 (c79 h3) k
  obtain⟨h5,h⟩:=zT h
  obtain⟨r10,h11,h⟩:=zD h
  obtain⟨l12,h13,h⟩:=zD h
  exact fun j=>lH 0 [] [0] [1] [0,3] (oD (yT l12)<|oD (zP a)<|oP 1 (zSC h13 (by simp))<|oC 0 [0] (zWC h11)<|oB 1 h5 k) (ih h)
  cases h
  exact fun j=>lF 0 [0] (oD (yT n)<|oD (zP a)<|oK 0 [0] h4 (c79 h3) k)
theorem c78{m a g f e r}(h:e78 m a g f e=some r):Ct 78 [.cells [zH yA a .no,ai g,ai f,ai e]] [.mp 0 0] (.sl (zF yH r.1) r.1.length .no) [.cells [zH yA a .no,ai r.2.1,ai r.2.2.1,ai r.2.2.2]] 0:=⟨by
 unfold e78 at h
 exact tH ⟨func78,rfl⟩ 0 [(none,3,8)] [0] [0] [0,3] (oD (yT ([]:List xC))<|oD (zP a) o0) (zPe _ h),⟨(lz rfl),tv⟩,(zA ⟨⟨tv,zP _⟩,tv,tv,tv,tv⟩ zB),yT _,(zA ⟨zP _,tv,tv,tv,tv⟩ zB)⟩
def e39(e:Nat)(a:List yK)(d c b:Int):Option (wX×Int×Int×Int):=
 e70 e a d c b>>=fun r1=>
 cD e a d c b 0>>=fun r3=>
 if r1==0 then
 none
 else
 e72 e a (xE (d+1)) c b>>=fun r8=>
 if r1 != 3 then
 none
 else
 e76 e a r8.2.1 r8.2.2.1 r8.2.2.2 (⟨#[58]⟩:ByteArray)>>=fun r28=>
 e77 e a r28.1 r28.2.1 r28.2.2>>=fun r30=>
 e76 e a r30.2.1 r30.2.2.1 r30.2.2.2 (⟨#[123]⟩:ByteArray)>>=fun r32=>
 if r1==3 then
 e78 e a r32.1 r32.2.1 r32.2.2>>=fun r35=>
 e76 e a r35.2.1 r35.2.2.1 r35.2.2.2 (⟨#[125]⟩:ByteArray)>>=fun r37=>
 some ((wX.mk r1 r3.at_ r8.1 [] r30.1 [] r35.1),r37.1,r37.2.1,r37.2.2)
 else
 none
theorem c39{e a d c b r}(h:e39 e a d c b=some r):Ct 39 [.cells [zH yA a .no,ai d,ai c,ai b]] [.mp 0 0] (oO r.1) [.cells [zH yA a .no,ai r.2.1,ai r.2.2.1,ai r.2.2.2]] 0:=⟨by
 unfold e39 at h
 obtain⟨r1,h2,h⟩:=zD h
 obtain⟨r3,h4,h⟩:=zD h
 have k:=oC 0 [0] (E2 h4)<|oC 0 [0] (c70 h2) o0
 obtain⟨h5,h⟩:=zT h
 obtain⟨r8,h9,h⟩:=zD h
 have k:=oC 3 [0] (c72 h9)<|oB 2 h5 k
 obtain⟨h10,h⟩:=zT h
 obtain⟨r28,h29,h⟩:=zD h
 obtain⟨r30,h31,h⟩:=zD h
 obtain⟨r32,h33,h⟩:=zD h
 have k:=oC 1 [0] (c76 h33)<|oC 0 [0] (c77 h31)<|oC 0 [0] (c76 h29)<|oB 2 h10 k
 obtain⟨h34,h⟩:=xD h
 obtain⟨r35,h36,h⟩:=zD h
 obtain⟨r37,h38,h⟩:=zD h
 cases h
 exact tF ⟨func39,rfl⟩ 2 [0] (oD (yT r35.1)<|oD (yC ([]:List yJ))<|oD (zL r30.1.sub_)<|oD (yC ([]:List yJ))<|oD (zP a)<|oC 1 [0] (c76 h38)<|oC 0 [0] (c78 h36)<|oB 1 h34 k),⟨(lz rfl),tv⟩,(zA ⟨⟨tv,zP _⟩,tv,tv,tv,tv⟩ zB),⟨tv,tv,tv,yC _,tv,tv,tv,tv,zL _,yC _,yT _,tv⟩,(zA ⟨zP _,tv,tv,tv,tv⟩ zB)⟩
def Y7:Nat->ByteArray->(List yK×Int×Int×Int)->List wX->Int->Int->Int->Option (List wX×Int×Int)
 |0,_,_,_,_,_,_=>none
 |d+1,e,r1,f,b,c,a=>
 if a==0 then
 cD d r1.1 b c a 0>>=fun r4=>
 if r4.kind_ != 5 then
 e39 d r1.1 b c a>>=fun r7=>
 yV 168 f [r7.1]>>=fun l9=>
 Y7 d e r1 l9 r7.2.1 r7.2.2.1 r7.2.2.2
 else
 if a != 0 then
 none
 else
 some (f,(e.size:Int),0)
 else
 none
def e24(d:Nat)(e:ByteArray):Option (List wX×Int×Int):=
 e37 d e>>=fun r1=>
 Y7 d e r1 [] r1.2.1 r1.2.2.1 r1.2.2.2
theorem zPd:∀d:Nat,(∀ {e r1 f b c a r},Y7 d e r1 f b c a=some r->(∀j,dL 0 (pt 4069 f24) (sp j 41 0 [(0,at' e),(5,.mp 0 0),(6,zH vT f (.st 0 11))]) (⟨[(0,.cells [zH yA r1.1 .no,ai b,ai c,ai a])],1,[0],1,[]⟩) (fQ 0 (nQ 0 f24 (.tup [.sl (zF vT r.1) r.1.length .no,ai r.2.1,ai r.2.2]) [] 0) [.blk 0,.seq (pt 255 f24)]))):=by
 intro d
 induction d with
 |zero=>
  exact fun h=>nn h
 |succ d ih=>
  intro e r1 f b c a r h
  rw[Y7]at h
  obtain⟨h3,h⟩:=xD h
  obtain⟨r4,h5,h⟩:=zD h
  have k:=oC 0 [0] (E2 h5)<|oB 1 h3 o0
  obtain⟨h6,h⟩|⟨h6,h⟩:=xA h
  obtain⟨r7,h8,h⟩:=zD h
  obtain⟨l9,h10,h⟩:=zD h
  exact fun j=>lH 0 [] [0] [1] [0,5,6] (oD (jE l9)<|oD (zP r1.1)<|oP 1 (zSD h10 (by simp))<|oC 0 [0] (c39 h8)<|oB 0 h6 k) (ih h)
  have k:=oB 0 h6 k
  obtain⟨h11,h⟩:=zT h
  cases h
  exact fun j=>lF 1 [] (oD (jE f)<|oB 1 h11 k)
theorem c24{d e r}(h:e24 d e=some r):Ct 24 [] [at' e] (.tup [.sl (zF vT r.1) r.1.length .no,ai r.2.1,ai r.2.2]) [] 0:=⟨by
 unfold e24 at h
 obtain⟨r1,h2,h⟩:=zD h
 exact tH ⟨func24,rfl⟩ 0 [(none,6,11)] [0] [0] [0,5,6] (oD (jE ([]:List wX))<|oD (zP r1.1)<|oC 0 [] (c37 h2) o0) (zPd _ h),⟨tv,tv⟩,zB,⟨jE _,tv,tv,tv⟩,zB⟩
def e17(b:Nat)(a:ByteArray):Option (wX×Bool):=
 e24 b a>>=fun r1=>
 if r1.2.2 != 0 then
 none
 else
 if (r1.1.length:Int)==0 then
 none
 else
 yG r1.1 0>>=fun x5=>
 some (x5,true)
theorem c17{b a r}(h:e17 b a=some r):Ct 17 [] [at' a] (.tup [oO r.1,ab r.2]) [] 0:=⟨by
 unfold e17 at h
 obtain⟨r1,h2,h⟩:=zD h
 have k:=oC 0 [] (c24 h2) o0
 obtain⟨h3,h⟩:=zT h
 have k:=oB 3 h3 k
 obtain⟨h4,h⟩:=zT h
 obtain⟨x5,h6,h⟩:=zD h
 cases h
 exact tF ⟨func17,rfl⟩ 2 [] (oD (yT x5.rows_)<|oD (yC x5.cons_)<|oD (zL x5.type_.sub_)<|oD (yC x5.tele_)<|oA 0 (zWy (o:=.no) h6)<|oB 1 h4 k),⟨tv,tv⟩,zB,⟨⟨tv,tv,tv,yC _,tv,tv,tv,tv,zL _,yC _,yT _,tv⟩,tv,tv⟩,zB⟩
def Y8(d:Nat)(c a b:Int):Option Int:=
 some b
theorem zLo{d c a b r}(h:Y8 d c a b=some r):Ct 25 [.cells [ai c,ai a]] [.mp 0 0,ai b] (.tup []) [.cells [ai r,ai a]] 0:=⟨by
 unfold Y8 at h
 obtain rfl:=sj h
 exact tF ⟨func25,rfl⟩ 1 [0] (o0),⟨(lz rfl),tv,tv⟩,(zA ⟨tv,tv,tv⟩ zB),tv,(zA ⟨tv,tv,tv⟩ zB)⟩
def e18(b:Nat)(a:Int):Option (Int×Int×Int):=
 if decide (a<0)then
 none
 else
 if decide (a>1048576)then
 none
 else
 Y8 b 0 0 a>>=fun r3=>
 some (0,r3,0)
theorem c18{b a r}(h:e18 b a=some r):Ct 18 [] [ai a] (.tup [.mp 0 0,ai r.1]) [.cells [ai r.2.1,ai r.2.2]] 0:=⟨by
 unfold e18 at h
 obtain⟨h1,h⟩:=zT h
 have k:=oB 0 h1 o0
 obtain⟨h2,h⟩:=zT h
 obtain⟨r3,h4,h⟩:=zD h
 cases h
 exact tF ⟨func18,rfl⟩ 0 [0] (oC 0 [0] (zLo h4)<|oB 0 h2 k),⟨tv,tv⟩,zB,⟨(lz rfl),tv,tv⟩,(zA ⟨tv,tv,tv⟩ zB)⟩
def zLn(b:Nat)(a:zO):Option Bool:=
 zLy b a>>=fun r1=>
 some (decide (r1≤128))
theorem zTd{b a r}(h:zLn b a=some r):Ct 141 [] [xP a] (ab r) [] 0:=⟨by
 unfold zLn at h
 obtain⟨r1,h2,h⟩:=zD h
 cases h
 exact tF ⟨func141,rfl⟩ 1 [] (oC 1 [] (zTr h2) o0),⟨⟨tv,tv,tv,tv,⟨tv,zL _⟩,tv⟩,tv⟩,zB,tv,zB⟩
def zPc(b:Nat)(a:Int):Option Int:=
 if decide (a<1)then
 none
 else
 if decide (a>10)then
 none
 else
 yG ([0,0,0,2,2,2,0,0,(-1),0,1]:zU) a>>=fun x3=>
 some x3
theorem zWJ{b a r}(h:zPc b a=some r):Ct 317 [] [ai a] (ai r) [] 0:=⟨by
 unfold zPc at h
 obtain⟨h1,h⟩:=zT h
 have k:=oB 0 h1 o0
 obtain⟨h2,h⟩:=zT h
 obtain⟨x3,h4,h⟩:=zD h
 obtain rfl:=sj h
 exact tF ⟨func317,rfl⟩ 0 [] (oA 0 (zHK h4 rfl)<|oB 0 h2 k),⟨tv,tv⟩,zB,tv,zB⟩
def zLm(b:Nat)(a:zO):Option Bool:=
 if a.kind_==1 then
 e81 b a.name_>>=fun r2=>
 some r2
 else
 if a.kind_==6 then
 e81 b a.name_>>=fun r5=>
 some r5
 else
 if a.kind_==8 then
 e81 b a.name_>>=fun r8=>
 some r8
 else
 if a.kind_==3 then
 if a.name_.toList==(⟨#[95]⟩:ByteArray).toList then
 some true
 else
 e81 b a.name_>>=fun r12=>
 some r12
 else
 if a.kind_==4 then
 none
 else
 some (a.name_.toList==(⟨#[]⟩:ByteArray).toList)
theorem zFF:Qf 318 f318:=⟨func318,rfl⟩
theorem zTc{b a r}(h:zLm b a=some r):Ct 318 [] [xP a] (ab r) [] 0:=⟨by
 unfold zLm at h
 obtain⟨h1,h⟩|⟨h1,h⟩:=xA h
 obtain⟨r2,h3,h⟩:=zD h
 obtain rfl:=sj h
 exact tF zFF 0 [] (oC 1 [] (c81 h3)<|oB 1 h1 o0)
 have k:=oB 1 h1 o0
 obtain⟨h4,h⟩|⟨h4,h⟩:=xA h
 obtain⟨r5,h6,h⟩:=zD h
 obtain rfl:=sj h
 exact tF zFF 0 [] (oC 1 [] (c81 h6)<|oB 0 h4 k)
 have k:=oB 0 h4 k
 obtain⟨h7,h⟩|⟨h7,h⟩:=xA h
 obtain⟨r8,h9,h⟩:=zD h
 obtain rfl:=sj h
 exact tF zFF 0 [] (oC 1 [] (c81 h9)<|oB 0 h7 k)
 have k:=oB 0 h7 k
 obtain⟨h10,h⟩|⟨h10,h⟩:=xA h
 have k:=oB 0 h10 k
 obtain⟨h11,h⟩|⟨h11,h⟩:=xA h
 obtain rfl:=sj h
 exact tF zFF 0 [] (oB 1 h11 k)
 obtain⟨r12,h13,h⟩:=zD h
 obtain rfl:=sj h
 exact tF zFF 0 [] (oC 1 [] (c81 h13)<|oB 1 h11 k)
 have k:=oB 0 h10 k
 obtain⟨h14,h⟩:=zT h
 obtain rfl:=sj h
 exact tF zFF 2 [] (oB 0 h14 k),⟨⟨tv,tv,tv,tv,⟨tv,zL _⟩,tv⟩,tv⟩,zB,tv,zB⟩
def zLl(b:Nat)(a:zO):Option Bool:=
 zPc b a.kind_>>=fun r1=>
 if r1==(-2)then
 none
 else
 if decide (r1≥0)then
 if (a.sub_.length:Int) != r1 then
 none
 else
 if r1==(-1)then
 none
 else
 zLm b a>>=fun r13=>
 if r13 then
 if a.kind_==2 then
 if decide (a.n_≥0)then
 some (decide (a.n_≤7))
 else
 none
 else
 some (a.n_==0)
 else
 none
 else
 if r1==(-1)then
 if (a.sub_.length:Int)==0 then
 none
 else
 zLm b a>>=fun r20=>
 if r20 then
 if a.kind_==2 then
 none
 else
 some (a.n_==0)
 else
 none
 else
 none
theorem zPb:Qf 222 f222:=⟨func222,rfl⟩
theorem zTb{b a r}(h:zLl b a=some r):Ct 222 [] [xP a] (ab r) [] 0:=⟨by
 unfold zLl at h
 obtain⟨r1,h2,h⟩:=zD h
 have k:=oC 1 [] (zWJ h2) o0
 obtain⟨h3,h⟩:=zT h
 have k:=oB 0 h3 k
 obtain⟨h4,h⟩|⟨h4,h⟩:=xA h
 have k:=oB 0 h4 k
 obtain⟨h5,h⟩:=zT h
 have k:=oB 2 h5 k
 obtain⟨h6,h⟩:=zT h
 obtain⟨r13,h14,h⟩:=zD h
 have k:=oB 0 h6 k
 obtain⟨h15,h⟩:=xD h
 have k:=oK 1 [] h15 (zTc h14) k
 obtain⟨h16,h⟩|⟨h16,h⟩:=xA h
 have k:=oB 2 h16 k
 obtain⟨h17,h⟩:=xD h
 cases h
 exact tF zPb 2 [] (oB 1 h17 k)
 cases h
 exact tF zPb 2 [] (oB 2 h16 k)
 have k:=oB 0 h4 k
 obtain⟨h18,h⟩:=xD h
 have k:=oB 0 h18 k
 obtain⟨h19,h⟩:=zT h
 obtain⟨r20,h21,h⟩:=zD h
 have k:=oB 2 h19 k
 obtain⟨h22,h⟩:=xD h
 have k:=oK 1 [] h22 (zTc h21) k
 obtain⟨h23,h⟩:=zT h
 cases h
 exact tF zPb 2 [] (oB 2 h23 k),⟨⟨tv,tv,tv,tv,⟨tv,zL _⟩,tv⟩,tv⟩,zB,tv,zB⟩
mutual
def zCW:Nat->zO->Bool->Option Bool
 |0,_,_=>none
 |c+1,a,d=>
 if d then
 zLl c a>>=fun r1=>
 if r1 then
 if !(decide (a.kind_≥6)==true)then
 none
 else
 jF c a true 0
 else
 none
 else
 zLl c a>>=fun r5=>
 if r5 then
 if !(decide (a.kind_≥6)==false)then
 none
 else
 jF c a false 0
 else
 none
def jF:Nat->zO->Bool->Int->Option Bool
 |0,_,_,_=>none
 |c+1,a,e,b=>
 if e then
 if decide (b<(a.sub_.length:Int))then
 yG a.sub_ b>>=fun x6=>
 zCW c x6 (a.kind_ != 10)>>=fun r8=>
 if r8 then
 jF c a true (xE (b+1))
 else
 none
 else
 some true
 else
 if decide (b<(a.sub_.length:Int))then
 yG a.sub_ b>>=fun x12=>
 zCW c x12 false>>=fun r14=>
 if r14 then
 jF c a false (xE (b+1))
 else
 none
 else
 some true
end
abbrev zLk (a:zO) (d r:Bool) (C:Cf):Prop:=C 142 [] [xP a,ab d] (ab r) [] 0
theorem zTa:Qf 142 f142:=⟨func142,rfl⟩
theorem zTA{a d r}(h:zLk a d r Ci):zLk a d r Ct:=⟨h,⟨⟨tv,tv,tv,tv,⟨tv,zL _⟩,tv⟩,tv,tv⟩,zB,tv,zB⟩
theorem zAM:∀c:Nat,(∀ {a d r},zCW c a d=some r->zLk a d r Ct)∧(∀ {a e b r},jF c a e b=some r->(∀j,dL 0 (pt 4021 f142) (sp j 34 0 [(1,ab e),(2,.mp 0 0),(18,zH zR a.sub_ .no),(19,ai (a.sub_.length:Int)),(20,ai b)]) (⟨[(0,.cells [ai a.kind_,ai a.at_,at' a.name_,ai a.n_,zH zR a.sub_ .no])],1,[],0,[]⟩) (fQ 0 (nQ 0 f142 (ab r) [] 0) [.blk 0,.seq (pt 63 f142)]))):=by
 intro c
 induction c with
 |zero=>
  exact⟨fun h=>nn h,fun h=>nn h⟩
 |succ c ih=>
  obtain⟨zNU,gY⟩:=ih
  refine⟨?_,?_⟩
  intro a d r h
  rw[zCW]at h
  cases d
  replace h:=ifF rfl h
  obtain⟨r5,h6,h⟩:=zD h
  obtain⟨h7,h⟩:=xD h
  have k:=oK 1 [] h7 (zTb h6) o0
  obtain⟨h8,h⟩:=zT h
  exact zTA (tH zTa 2 [] [0] [] [1,2,18,19,20] (oD (zL a.sub_)<|oD (zL a.sub_)<|oB 3 h8 k) (gY h))
  replace h:=ifT rfl h
  obtain⟨r1,h2,h⟩:=zD h
  obtain⟨h3,h⟩:=xD h
  have k:=oK 1 [] h3 (zTb h2) o0
  obtain⟨h4,h⟩:=zT h
  exact zTA (tH zTa 2 [] [0] [] [1,2,18,19,20] (oD (zL a.sub_)<|oD (zL a.sub_)<|oB 3 h4 k) (gY h))
  intro a e b r h
  rw[jF]at h
  cases e
  replace h:=ifF rfl h
  obtain⟨h11,h⟩|⟨h11,h⟩:=xA h
  obtain⟨x12,h13,h⟩:=zD h
  obtain⟨r14,h15,h⟩:=zD h
  have k:=oA 0 (eS (o:=.no) h13)<|oB 0 h11 o0
  obtain⟨h16,h⟩:=xD h
  exact fun j=>lH 2 [] [0] [] [1,2,18,19,20] (oD (zL a.sub_)<|oD (zL a.sub_)<|oK 3 [] h16 (zNU h15) k) (gY h)
  cases h
  exact fun j=>lF 0 [] (oB 0 h11 o0)
  replace h:=ifT rfl h
  obtain⟨h5,h⟩|⟨h5,h⟩:=xA h
  obtain⟨x6,h7,h⟩:=zD h
  obtain⟨r8,h9,h⟩:=zD h
  have k:=oA 0 (eS (o:=.no) h7)<|oB 0 h5 o0
  obtain⟨h10,h⟩:=xD h
  exact fun j=>lH 2 [] [0] [] [1,2,18,19,20] (oD (zL a.sub_)<|oD (zL a.sub_)<|oK 5 [] h10 (zNU h9) k) (gY h)
  cases h
  exact fun j=>lF 0 [] (oB 0 h5 o0)
theorem zTB{c a d r}(h:zCW c a d=some r):zLk a d r Ct:=(zAM _).1 h
def e82(b:Nat)(a:zO):Option Bool:=
 zLn b a>>=fun r1=>
 if r1 then
 zCW b a false>>=fun r4=>
 some r4
 else
 none
theorem c82{b a r}(h:e82 b a=some r):Ct 82 [] [xP a] (ab r) [] 0:=⟨by
 unfold e82 at h
 obtain⟨r1,h2,h⟩:=zD h
 obtain⟨h3,h⟩:=xD h
 obtain⟨r4,h5,h⟩:=zD h
 obtain rfl:=sj h
 exact tF ⟨func82,rfl⟩ 0 [] (oC 1 [] (zTB h5)<|oK 1 [] h3 (zTd h2) o0),⟨⟨tv,tv,tv,tv,⟨tv,zL _⟩,tv⟩,tv⟩,zB,tv,zB⟩
def zCX(c:Nat)(a:List yJ)(b d:Int):Option Bool:=
 if decide (d<(a.length:Int))then
 none
 else
 some true
def e83(c:Nat)(a:List yJ)(b:Int):Option Bool:=
 zCX c a b 0
theorem zPa{c a b d r}(h:zCX c a b d=some r):(∀j,dL 0 (pt 949 f83) (sp j 30 0 [(0,zH zN a .no),(1,ai b),(7,zH zN a .no),(8,ai (a.length:Int)),(9,ai d)]) (⟨[],0,[],0,[]⟩) (fQ 0 (nQ 0 f83 (ab r) [] 0) [.blk 0,.seq (pt 15 f83)])):=by
 unfold zCX at h
 obtain⟨h1,h⟩:=zT h
 cases h
 exact fun j=>lF 0 [] (oB 0 h1 o0)
theorem c83{c a b r}(h:e83 c a b=some r):Ct 83 [] [zH zN a .no,ai b] (ab r) [] 0:=⟨by
 unfold e83 at h
 exact tH ⟨func83,rfl⟩ 1 [] [] [] [0,1,7,8,9] (oD (yC a)<|oD (yC a) o0) (zPa h),⟨⟨tv,yC _⟩,tv,tv⟩,zB,tv,zB⟩
def zLj(b:Nat)(a:zO):Option Bool:=
 zLn b a>>=fun r1=>
 if r1 then
 zCW b a true>>=fun r4=>
 some r4
 else
 none
theorem zTD{b a r}(h:zLj b a=some r):Ct 143 [] [xP a] (ab r) [] 0:=⟨by
 unfold zLj at h
 obtain⟨r1,h2,h⟩:=zD h
 obtain⟨h3,h⟩:=xD h
 obtain⟨r4,h5,h⟩:=zD h
 obtain rfl:=sj h
 exact tF ⟨func143,rfl⟩ 0 [] (oC 1 [] (zTB h5)<|oK 1 [] h3 (zTd h2) o0),⟨⟨tv,tv,tv,tv,⟨tv,zL _⟩,tv⟩,tv⟩,zB,tv,zB⟩
def Y9:Nat->xC->Int->Option Bool
 |0,_,_=>none
 |c+1,a,b=>
 if decide (b<(a.pats_.length:Int))then
 yG a.pats_ b>>=fun x3=>
 zLj c x3>>=fun r5=>
 if r5 then
 Y9 c a (xE (b+1))
 else
 none
 else
 if a.has_ then
 e82 c a.body_>>=fun r9=>
 some r9
 else
 if a.body_.kind_==0 then
 if a.body_.at_==0 then
 if a.body_.name_.toList==(⟨#[]⟩:ByteArray).toList then
 if a.body_.n_==0 then
 some ((a.body_.sub_.length:Int)==0)
 else
 none
 else
 none
 else
 none
 else
 none
def e84(c:Nat)(a:xC):Option Bool:=
 if decide ((a.pats_.length:Int)>24)then
 none
 else
 Y9 c a 0
theorem zPA:∀c:Nat,(∀ {a b r},Y9 c a b=some r->(∀j,dL 0 (pt 4021 f84) (sp j 52 0 [(1,.mp 0 0),(11,zH zR a.pats_ .no),(12,ai (a.pats_.length:Int)),(13,ai b)]) (⟨[(0,.cells [ai a.at_,zH zR a.pats_ .no,ab a.has_,ai a.body_.kind_,ai a.body_.at_,at' a.body_.name_,ai a.body_.n_,zH zR a.body_.sub_ .no])],1,[],0,[]⟩) (fQ 0 (nQ 0 f84 (ab r) [] 0) [.blk 0,.seq (pt 63 f84)]))):=by
 intro c
 induction c with
 |zero=>
  exact fun h=>nn h
 |succ c ih=>
  intro a b r h
  rw[Y9]at h
  obtain⟨h2,h⟩|⟨h2,h⟩:=xA h
  obtain⟨x3,h4,h⟩:=zD h
  obtain⟨r5,h6,h⟩:=zD h
  have k:=oA 0 (eS (o:=.no) h4)<|oB 0 h2 o0
  obtain⟨h7,h⟩:=xD h
  exact fun j=>lH 2 [] [0] [] [1,11,12,13] (oD (zL a.pats_)<|oD (zL a.body_.sub_)<|oD (zL a.pats_)<|oK 3 [] h7 (zTD h6) k) (ih h)
  have k:=oB 0 h2 o0
  obtain⟨h8,h⟩|⟨h8,h⟩:=xA h
  obtain⟨r9,h10,h⟩:=zD h
  obtain rfl:=sj h
  exact fun j=>lF 0 [] (oC 1 [] (c82 h10)<|oB 0 h8 k)
  have k:=oB 0 h8 k
  obtain⟨h11,h⟩:=xD h
  have k:=oB 3 h11 k
  obtain⟨h12,h⟩:=xD h
  have k:=oB 1 h12 k
  obtain⟨h13,h⟩:=xD h
  have k:=oB 1 h13 k
  obtain⟨h14,h⟩:=xD h
  obtain rfl:=sj h
  exact fun j=>lF 3 [] (oB 1 h14 k)
theorem c84{c a r}(h:e84 c a=some r):Ct 84 [] [D7 a] (ab r) [] 0:=⟨by
 unfold e84 at h
 obtain⟨h1,h⟩:=zT h
 exact tH ⟨func84,rfl⟩ 2 [] [0] [] [1,11,12,13] (oD (zL a.pats_)<|oD (zL a.body_.sub_)<|oD (zL a.pats_)<|oB 2 h1 o0) (zPA _ h),⟨⟨tv,⟨tv,zL _⟩,tv,tv,tv,tv,tv,⟨tv,zL _⟩,tv⟩,tv⟩,zB,tv,zB⟩
def Z0:Nat->wX->Int->Option Bool
 |0,_,_=>none
 |b+1,a,c=>
 if decide (c<(a.rows_.length:Int))then
 yG a.rows_ c>>=fun x21=>
 e84 b x21>>=fun r23=>
 if r23 then
 Z0 b a (xE (c+1))
 else
 none
 else
 some true
def e41(b:Nat)(a:wX):Option Bool:=
 if decide (a.kind_<1)then
 none
 else
 if decide (a.kind_>3)then
 none
 else
 e81 b a.name_>>=fun r3=>
 if r3 then
 e82 b a.type_>>=fun r6=>
 if r6 then
 e83 b a.tele_ 24>>=fun r9=>
 if r9 then
 e83 b a.cons_ 16>>=fun r12=>
 if r12 then
 if a.kind_==3 then
 if decide ((xE ((a.tele_.length:Int)+(a.cons_.length:Int)))>0)then
 none
 else
 if a.kind_ != 3 then
 none
 else
 if decide ((a.rows_.length:Int)>32)then
 none
 else
 Z0 b a 0
 else
 none
 else
 none
 else
 none
 else
 none
 else
 none
theorem zPB:∀b:Nat,(∀ {a c r},Z0 b a c=some r->(∀j,dL 0 (pt 16309 f41) (sp j 78 0 [(68,zH yH a.rows_ .no),(69,ai (a.rows_.length:Int)),(70,ai c)]) (⟨[],0,[],0,[]⟩) (fQ 0 (nQ 0 f41 (ab r) [] 0) [.blk 0,.seq (pt 255 f41)]))):=by
 intro b
 induction b with
 |zero=>
  exact fun h=>nn h
 |succ b ih=>
  intro a c r h
  rw[Z0]at h
  obtain⟨h20,h⟩|⟨h20,h⟩:=xA h
  obtain⟨x21,h22,h⟩:=zD h
  obtain⟨r23,h24,h⟩:=zD h
  have k:=oA 0 (R3 (o:=.no) h22)<|oB 0 h20 o0
  obtain⟨h25,h⟩:=xD h
  exact fun j=>lH 2 [] [] [] [68,69,70] (oD (yT a.rows_)<|oK 3 [] h25 (c84 h24) k) (ih h)
  cases h
  exact fun j=>lF 0 [] (oB 0 h20 o0)
theorem c41{b a r}(h:e41 b a=some r):Ct 41 [] [oO a] (ab r) [] 0:=⟨by
 unfold e41 at h
 obtain⟨h1,h⟩:=zT h
 have k:=oB 1 h1 o0
 obtain⟨h2,h⟩:=zT h
 obtain⟨r3,h4,h⟩:=zD h
 have k:=oB 1 h2 k
 obtain⟨h5,h⟩:=xD h
 obtain⟨r6,h7,h⟩:=zD h
 have k:=oK 1 [] h5 (c81 h4) k
 obtain⟨h8,h⟩:=xD h
 obtain⟨r9,h10,h⟩:=zD h
 have k:=oK 2 [] h8 (c82 h7) k
 obtain⟨h11,h⟩:=xD h
 obtain⟨r12,h13,h⟩:=zD h
 have k:=oK 2 [] h11 (c83 h10) k
 obtain⟨h14,h⟩:=xD h
 have k:=oK 2 [] h14 (c83 h13) k
 obtain⟨h15,h⟩:=xD h
 have k:=oB 2 h15 k
 obtain⟨h16,h⟩:=zT h
 have k:=oB 5 h16 k
 obtain⟨h17,h⟩:=zT h
 have k:=oB 1 h17 k
 obtain⟨h20,h⟩:=zT h
 exact tH ⟨func41,rfl⟩ 2 [] [] [] [68,69,70] (oD (yT a.rows_)<|oB 2 h20 k) (zPB _ h),⟨⟨tv,tv,tv,⟨tv,yC _⟩,tv,tv,tv,tv,⟨tv,zL _⟩,⟨tv,yC _⟩,⟨tv,yT _⟩,tv⟩,tv⟩,zB,tv,zB⟩
def zIy(qq:Nat)(p0:zU):Option zU:=
 some []
theorem zPC{qq p0 r}(h:zIy qq p0=some r):Ct 127 [] [zH zS p0 .nl] (.sl (zF zS r) r.length .no) [] 0:=⟨by
 unfold zIy at h
 cases h
 exact tF ⟨func127,rfl⟩ 1 [] (oD (dI ([]:zU)) o0),⟨⟨tv,dI _⟩,tv⟩,zB,dI _,zB⟩
def Z1(qq:Nat)(p0:zU):Option zU:=
 yV 8 ([]:zU) p0>>=fun l1=>
 some l1
theorem zIx:Qf 127 f127:=⟨func127,rfl⟩
theorem zPD{qq p0 r}(h:Z1 qq p0=some r):Ct 127 [] [zH zS p0 .nn] (.sl (zF zS r) r.length .no) [] 0:=⟨by
 unfold Z1 at h
 obtain⟨l1,h2,h⟩:=zD h
 by_cases h3:List.length p0=0
 obtain rfl:=sj h
 exact tF zIx 0 [] (oD (dI l1)<|oP 2 (zAc h2 h3) o0)
 obtain rfl:=sj h
 exact tF zIx 0 [] (oD (dI l1)<|oP 2 (sG h2 h3) o0),⟨⟨tv,dI _⟩,tv⟩,zB,dI _,zB⟩
def zEn(qq:Nat)(p0:zU):Option Unit:=
 some ()
theorem zLi{qq p0 r}(h:zEn qq p0=some r):Ct 127 [] [zH zS p0 .nl] (zH zS ([]:zU) .full) [] 0:=⟨by
 unfold zEn at h
 cases h
 exact tG ⟨func127,rfl⟩ 1 [] [] [] true (oD (dI ([]:zU)) o0),⟨⟨tv,dI _⟩,tv⟩,zB,dI _,zB⟩
def Z2(qq:Nat)(p0:zU):Option ((Unit) ⊕ zU):=
 if decide (List.length p0=0)then
 some (.inl ())
 else
 yV 8 ([]:zU) p0>>=fun l2=>
 some (.inr l2)
abbrev zFG (p0:zU) (C:Cf):Prop:=C 127 [] [zH zS p0 .nn] (zH zS ([]:zU) .full) [] 0
abbrev zFH (p0 r:zU) (C:Cf):Prop:=C 127 [] [zH zS p0 .nn] (.ms 0 0 r.length r.length 1) [.row (zF zS r)] 0
theorem zEm:Qf 127 f127:=⟨func127,rfl⟩
theorem zEl{qq p0 r}(h:Z2 qq p0=some r):(match (generalizing:=false) r with | .inl x=>zFG p0 Ct | .inr x=>zFH p0 x Ct):=by
 unfold Z2 at h
 obtain⟨h1,h⟩|⟨h1,h⟩:=xA h
 cases h
 exact⟨tG zEm 0 [] [] [] true (oD (dI ([]:zU))<|oQ 2 (zSb (of_decide_eq_true h1)) o0),⟨⟨tv,dI _⟩,tv⟩,zB,dI _,zB⟩
 obtain⟨l2,h3,h⟩:=zD h
 cases h
 exact⟨tF zEm 0 [0] (oD (dI l2)<|oM 2 (zSG h3 (of_decide_eq_false h1)) o0),⟨⟨tv,dI _⟩,tv⟩,zB,(lz rfl),(zA (dI _) zB)⟩
def zIw(_qq:Nat)(p0:zU):Option zU:=yV 8 [] p0
theorem zTE{qq:Nat}{p0:zU}{r:zU}(h:zIw qq p0=some r):CT prog 127 [] [.sl (zF zS p0) p0.length .no] (.sl (zF zS r) r.length .no) [] 0:=by
 have hr:r=p0:=by have:=(uB h).2;simpa using this
 have h1:Z1 qq p0=some r:=by unfold Z1;rw[show yV 8 ([]:zU) p0=some r from h];rfl
 have k1:=zPD h1
 refine⟨wZ.nilcase (fun hn=>?_) k1.tri,⟨⟨trivial,dI _⟩,trivial⟩,(fun _ h=>nomatch h),dI _,(fun _ h=>nomatch h)⟩
 have hp:p0=[]:=gN yL (by decide) hn
 subst hr
 subst hp
 exact(zPC (qq:=qq) rfl).tri
def zCY(qq:Nat)(p0:zU):Option (Unit ⊕ zU):=if decide (List.length p0=0)=true then some (.inl ())else(yV 8 [] p0)>>=fun r=>some (.inr r)
theorem zIv{qq:Nat}{p0:zU}{r:Unit ⊕ zU}(h:zCY qq p0=some r):(match (generalizing:=false) r with | .inl _=>CT prog 127 [] [.sl (zF zS p0) p0.length .no] (.sl (zF zS ([]:zU)) (List.length ([]:zU)) .full) [] 0 | .inr x=>CT prog 127 [] [.sl (zF zS p0) p0.length .no] (.ms 0 0 x.length x.length 1) [.row (zF zS x)] 0):=by
 unfold zCY at h
 obtain⟨h1,h⟩|⟨h1,h⟩:=xA h
 ·obtain rfl:=sj h
  have hp:p0=[]:=List.length_eq_zero_iff.1 (of_decide_eq_true h1)
  subst hp
  have k0:=zLi (qq:=qq) (p0:=[]) (r:=()) rfl
  have k1:=zEl (qq:=qq) (p0:=[]) (r:=.inl ()) rfl
  exact⟨wZ.nilcase (fun _=>k0.tri) k1.tri,⟨⟨trivial,dI _⟩,trivial⟩,(fun _ h=>nomatch h),dI _,(fun _ h=>nomatch h)⟩
 ·obtain⟨x,h2,h⟩:=zD h
  cases h
  have k1:=zEl (qq:=qq) (p0:=p0) (r:=.inr x) (by unfold Z2;rw[if_neg (by rw[h1];decide),h2];rfl)
  refine⟨wZ.nilcase (fun hn=>?_) k1.tri,⟨⟨trivial,dI _⟩,trivial⟩,(fun _ h=>nomatch h),(show 0<1 by decide),zA (dI _) zB⟩
  have hp:p0=[]:=gN yL (by decide) hn
  subst hp
  cases h1
mutual
def zIu:Nat->Tm->Option Tm
 |0,_=>none
 |d+1,b=>
 cX d b 0 []
def cX:Nat->Tm->Int->zW->Option Tm
 |0,_,_,_=>none
 |d+1,b,c,a=>
 if decide (c<(b.sub.length:Int))then
 yG b.sub c>>=fun x2=>
 zIu d x2>>=fun r4=>
 yV 40 a [r4]>>=fun l6=>
 cX d b (xE (c+1)) l6
 else
 some (Tm.mk b.k b.n a)
end
abbrev zTF (b r:Tm) (C:Cf):Prop:=C 152 [] [xF b] (xF r) [] 0
theorem zAN:∀d:Nat,(∀ {b r},zIu d b=some r->zTF b r Ct)∧(∀ {b c a r},cX d b c a=some r->(∀j,dL 0 (pt 4021 f152) (sp j 27 0 [(2,.mp 0 0),(3,.mp 1 0),(12,zH zC b.sub .no),(13,ai (b.sub.length:Int)),(14,ai c)]) (⟨[(0,.cells [ai 0,ai 0,zH zC ([]:zW) .nl]),(1,.cells [ai b.k,ai b.n,zH zC a (.st 0 3)])],2,[0],1,[]⟩) (fQ 0 (nQ 0 f152 (xF r) [] 0) [.blk 0,.seq (pt 63 f152)]))):=by
 intro d
 induction d with
 |zero=>
  exact⟨fun h=>nn h,fun h=>nn h⟩
 |succ d ih=>
  obtain⟨zTG,zAO⟩:=ih
  refine⟨?_,?_⟩
  intro b r h
  rw[zIu]at h
  exact⟨tH ⟨func152,rfl⟩ 5 [(some 2,2,3)] [1,2] [0] [2,3,12,13,14] (oD (dT b.sub)<|oD (dT ([]:zW))<|oD (dT ([]:zW)) o0) (zAO h),⟨⟨tv,tv,⟨tv,dT _⟩,tv⟩,tv⟩,zB,⟨tv,tv,dT _,tv⟩,zB⟩
  intro b c a r h
  rw[cX]at h
  obtain⟨h1,h⟩|⟨h1,h⟩:=xA h
  obtain⟨x2,h3,h⟩:=zD h
  obtain⟨r4,h5,h⟩:=zD h
  obtain⟨l6,h7,h⟩:=zD h
  exact fun j=>lH 2 [] [0,1] [1] [2,3,12,13,14] (oD (dT b.sub)<|oD (dT l6)<|oD (dT ([]:zW))<|oP 0 (vO h7 (by simp))<|oS 0 (xL xU [r4])<|oC 1 [] (zTG h5)<|rF 2<|oA 0 (wN (o:=.no) h3)<|oB 0 h1 o0) (zAO h)
  cases h
  exact fun j=>lF 2 [] (oD (dT a)<|oB 0 h1 o0)
theorem zWN{d b r}(h:zIu d b=some r):zTF b r Ct:=(zAN _).1 h
mutual
def zIt:Nat->Tm->Int->Option Int
 |0,_,_=>none
 |c+1,a,d=>
 cY c a (xE (d+1)) 0
def cY:Nat->Tm->Int->Int->Option Int
 |0,_,_,_=>none
 |c+1,a,e,b=>
 if decide (b<(a.sub.length:Int))then
 yG a.sub b>>=fun x2=>
 if decide (e>8192)then
 none
 else
 zIt c x2 e>>=fun r5=>
 cY c a r5 (xE (b+1))
 else
 some e
end
abbrev zTH (a:Tm) (d r:Int) (C:Cf):Prop:=C 333 [] [xF a,ai d] (ai r) [] 0
theorem zAP:∀c:Nat,(∀ {a d r},zIt c a d=some r->zTH a d r Ct)∧(∀ {a e b r},cY c a e b=some r->(∀j,dL 0 (pt 4021 f333) (sp j 23 0 [(1,ai e),(10,zH zC a.sub .no),(11,ai (a.sub.length:Int)),(12,ai b)]) (⟨[],0,[],0,[]⟩) (fQ 0 (nQ 0 f333 (ai r) [] 0) [.blk 0,.seq (pt 63 f333)]))):=by
 intro c
 induction c with
 |zero=>
  exact⟨fun h=>nn h,fun h=>nn h⟩
 |succ c ih=>
  obtain⟨zTI,zAQ⟩:=ih
  refine⟨?_,?_⟩
  intro a d r h
  rw[zIt]at h
  exact⟨tH ⟨func333,rfl⟩ 3 [] [] [] [1,10,11,12] (oD (dT a.sub) o0) (zAQ h),⟨⟨tv,tv,⟨tv,dT _⟩,tv⟩,tv,tv⟩,zB,tv,zB⟩
  intro a e b r h
  rw[cY]at h
  obtain⟨h1,h⟩|⟨h1,h⟩:=xA h
  obtain⟨x2,h3,h⟩:=zD h
  have k:=oA 0 (wN (o:=.no) h3)<|oB 0 h1 o0
  obtain⟨h4,h⟩:=zT h
  obtain⟨r5,h6,h⟩:=zD h
  exact fun j=>lH 1 [] [] [] [1,10,11,12] (oD (dT a.sub)<|oC 1 [] (zTI h6)<|oB 2 h4 k) (zAQ h)
  obtain rfl:=sj h
  exact fun j=>lF 0 [] (oB 0 h1 o0)
theorem zWO{c a d r}(h:zIt c a d=some r):zTH a d r Ct:=(zAP _).1 h
def zIs(b:Nat)(a:Tm):Option Int:=
 zIt b a 0>>=fun r1=>
 some r1
theorem zPE{b a r}(h:zIs b a=some r):Ct 235 [] [xF a] (ai r) [] 0:=⟨by
 unfold zIs at h
 obtain⟨r1,h2,h⟩:=zD h
 obtain rfl:=sj h
 exact tF ⟨func235,rfl⟩ 0 [] (oC 1 [] (zWO h2) o0),⟨⟨tv,tv,⟨tv,dT _⟩,tv⟩,tv⟩,zB,tv,zB⟩
mutual
def zIr:Nat->Tm->Int->Option Int
 |0,_,_=>none
 |d+1,a,b=>
 if decide (b>128)then
 none
 else
 cZ d a b 0 b
def cZ:Nat->Tm->Int->Int->Int->Option Int
 |0,_,_,_,_=>none
 |d+1,a,b,c,e=>
 if decide (c<(a.sub.length:Int))then
 yG a.sub c>>=fun x3=>
 zIr d x3 (xE (b+1))>>=fun r5=>
 cZ d a b (xE (c+1)) (X4 e r5)
 else
 some e
end
abbrev zTJ (a:Tm) (b r:Int) (C:Cf):Prop:=C 236 [] [xF a,ai b] (ai r) [] 0
theorem zAR:∀d:Nat,(∀ {a b r},zIr d a b=some r->zTJ a b r Ct)∧(∀ {a b c e r},cZ d a b c e=some r->(∀j,dL 0 (pt 16309 f236) (sp j 27 0 [(1,ai b),(5,ai e),(13,zH zC a.sub .no),(14,ai (a.sub.length:Int)),(15,ai c)]) (⟨[],0,[],0,[]⟩) (fQ 0 (nQ 0 f236 (ai r) [] 0) [.blk 0,.seq (pt 255 f236)]))):=by
 intro d
 induction d with
 |zero=>
  exact⟨fun h=>nn h,fun h=>nn h⟩
 |succ d ih=>
  obtain⟨zTK,zAS⟩:=ih
  refine⟨?_,?_⟩
  intro a b r h
  rw[zIr]at h
  obtain⟨h1,h⟩:=zT h
  exact⟨tH ⟨func236,rfl⟩ 2 [] [] [] [1,5,13,14,15] (oD (dT a.sub)<|oB 0 h1 o0) (zAS h),⟨⟨tv,tv,⟨tv,dT _⟩,tv⟩,tv,tv⟩,zB,tv,zB⟩
  intro a b c e r h
  rw[cZ]at h
  obtain⟨h2,h⟩|⟨h2,h⟩:=xA h
  obtain⟨x3,h4,h⟩:=zD h
  obtain⟨r5,h6,h⟩:=zD h
  exact fun j=>lH 2 [] [] [] [1,5,13,14,15] (oD (dT a.sub)<|oC 4 [] (zTK h6)<|oA 0 (wN (o:=.no) h4)<|oB 0 h2 o0) (zAS h)
  obtain rfl:=sj h
  exact fun j=>lF 0 [] (oB 0 h2 o0)
theorem zWP{d a b r}(h:zIr d a b=some r):zTJ a b r Ct:=(zAR _).1 h
def zPF(b:Nat)(a:Tm):Option Int:=
 zIs b a>>=fun r1=>
 if decide (r1>8192)then
 none
 else
 zIr b a 1>>=fun r4=>
 some r4
theorem zWQ{b a r}(h:zPF b a=some r):Ct 150 [] [xF a] (ai r) [] 0:=⟨by
 unfold zPF at h
 obtain⟨r1,h2,h⟩:=zD h
 have k:=oC 1 [] (zPE h2) o0
 obtain⟨h3,h⟩:=zT h
 obtain⟨r4,h5,h⟩:=zD h
 obtain rfl:=sj h
 exact tF ⟨func150,rfl⟩ 0 [] (oC 1 [] (zWP h5)<|oB 0 h3 k),⟨⟨tv,tv,⟨tv,dT _⟩,tv⟩,tv⟩,zB,tv,zB⟩
def zPG(b:Nat)(a:Tm):Option Bool:=
 if decide (a.k<1)then
 some false
 else
 if decide (a.k>8)then
 none
 else
 yG ([0,0,0,2,2,2,0,1,0]:zU) a.k>>=fun x3=>
 yG ([0,1048576,7,0,0,0,1048576,1048576,1048576]:zU) a.k>>=fun x5=>
 if (a.sub.length:Int)==x3 then
 if decide (a.n≥0)then
 if decide (a.n≤x5)then
 if a.k != 7 then
 some true
 else
 yG a.sub 0>>=fun x11=>
 some (x11.k==2)
 else
 none
 else
 none
 else
 none
theorem zPH:Qf 237 f237:=⟨func237,rfl⟩
theorem zTL{b a r}(h:zPG b a=some r):Ct 237 [] [xF a] (ab r) [] 0:=⟨by
 unfold zPG at h
 obtain⟨h1,h⟩|⟨h1,h⟩:=xA h
 cases h
 exact tF zPH 0 [] (oB 1 h1 o0)
 have k:=oB 1 h1 o0
 obtain⟨h2,h⟩:=zT h
 obtain⟨x3,h4,h⟩:=zD h
 obtain⟨x5,h6,h⟩:=zD h
 have k:=oA 1 (zAa h6 rfl)<|oA 1 (zAa h4 rfl)<|oB 1 h2 k
 obtain⟨h7,h⟩:=xD h
 have k:=oB 2 h7 k
 obtain⟨h8,h⟩:=xD h
 have k:=oB 1 h8 k
 obtain⟨h9,h⟩:=xD h
 have k:=oB 1 h9 k
 obtain⟨h10,h⟩|⟨h10,h⟩:=xA h
 cases h
 exact tF zPH 0 [] (oB 1 h10 k)
 obtain⟨x11,h12,h⟩:=zD h
 cases h
 exact tF zPH 2 [] (oA 1 (wN (o:=.no) h12)<|oB 1 h10 k),⟨⟨tv,tv,⟨tv,dT _⟩,tv⟩,tv⟩,zB,tv,zB⟩
mutual
def zIq:Nat->Tm->Option Bool
 |0,_=>none
 |c+1,a=>
 zPG c a>>=fun r1=>
 if r1 then
 bA c a 0
 else
 some false
def bA:Nat->Tm->Int->Option Bool
 |0,_,_=>none
 |c+1,a,b=>
 if decide (b<(a.sub.length:Int))then
 yG a.sub b>>=fun x5=>
 zIq c x5>>=fun r7=>
 if r7 then
 bA c a (xE (b+1))
 else
 none
 else
 some true
end
abbrev zTM (a:Tm) (r:Bool) (C:Cf):Prop:=C 151 [] [xF a] (ab r) [] 0
theorem zTN:Qf 151 f151:=⟨func151,rfl⟩
theorem zAT:∀c:Nat,(∀ {a r},zIq c a=some r->zTM a r Ct)∧(∀ {a b r},bA c a b=some r->(∀j,dL 0 (pt 4021 f151) (sp j 19 0 [(9,zH zC a.sub .no),(10,ai (a.sub.length:Int)),(11,ai b)]) (⟨[],0,[],0,[]⟩) (fQ 0 (nQ 0 f151 (ab r) [] 0) [.blk 0,.seq (pt 63 f151)]))):=by
 intro c
 induction c with
 |zero=>
  exact⟨fun h=>nn h,fun h=>nn h⟩
 |succ c ih=>
  obtain⟨zTO,zAU⟩:=ih
  refine⟨?_,?_⟩
  intro a r h
  rw[zIq]at h
  obtain⟨r1,h2,h⟩:=zD h
  obtain⟨h3,h⟩|⟨h3,h⟩:=xA h
  exact⟨tH zTN 3 [] [] [] [9,10,11] (oD (dT a.sub)<|oK 1 [] h3 (zTL h2) o0) (zAU h),⟨⟨tv,tv,⟨tv,dT _⟩,tv⟩,tv⟩,zB,tv,zB⟩
  cases h
  exact⟨tF zTN 1 [] (oK 1 [] h3 (zTL h2) o0),⟨⟨tv,tv,⟨tv,dT _⟩,tv⟩,tv⟩,zB,tv,zB⟩
  intro a b r h
  rw[bA]at h
  obtain⟨h4,h⟩|⟨h4,h⟩:=xA h
  obtain⟨x5,h6,h⟩:=zD h
  obtain⟨r7,h8,h⟩:=zD h
  have k:=oA 0 (wN (o:=.no) h6)<|oB 0 h4 o0
  obtain⟨h9,h⟩:=xD h
  exact fun j=>lH 2 [] [] [] [9,10,11] (oD (dT a.sub)<|oK 3 [] h9 (zTO h8) k) (zAU h)
  cases h
  exact fun j=>lF 0 [] (oB 0 h4 o0)
theorem zWR{c a r}(h:zIq c a=some r):zTM a r Ct:=(zAT _).1 h
def jX(b:Nat)(a:Tm):Option Bool:=
 zPF b a>>=fun r1=>
 if decide (r1≤128)then
 zIq b a>>=fun r4=>
 some r4
 else
 none
theorem jM{b a r}(h:jX b a=some r):Ct 91 [] [xF a] (ab r) [] 0:=⟨by
 unfold jX at h
 obtain⟨r1,h2,h⟩:=zD h
 have k:=oC 1 [] (zWQ h2) o0
 obtain⟨h3,h⟩:=xD h
 obtain⟨r4,h5,h⟩:=zD h
 obtain rfl:=sj h
 exact tF ⟨func91,rfl⟩ 0 [] (oC 1 [] (zWR h5)<|oB 0 h3 k),⟨⟨tv,tv,⟨tv,dT _⟩,tv⟩,tv⟩,zB,tv,zB⟩
def e92(b:Nat)(a:Tm):Option Tm:=
 jX b a>>=fun r1=>
 if r1 then
 zIu b a>>=fun r4=>
 some r4
 else
 some (Tm.mk 0 0 [])
theorem q92:Qf 92 f92:=⟨func92,rfl⟩
theorem c92{b a r}(h:e92 b a=some r):Ct 92 [] [xF a] (xF r) [] 0:=⟨by
 unfold e92 at h
 obtain⟨r1,h2,h⟩:=zD h
 obtain⟨h3,h⟩|⟨h3,h⟩:=xA h
 obtain⟨r4,h5,h⟩:=zD h
 obtain rfl:=sj h
 exact tF q92 1 [] (oD (dT r4.sub)<|oC 2 [] (zWN h5)<|oK 1 [] h3 (jM h2) o0)
 obtain rfl:=sj h
 exact tF q92 2 [] (oD (dT ([]:zW))<|oK 1 [] h3 (jM h2) o0),⟨⟨tv,tv,⟨tv,dT _⟩,tv⟩,tv⟩,zB,⟨tv,tv,dT _,tv⟩,zB⟩
def Z3:Nat->yD->yD->Int->Option yD
 |0,_,_,_=>none
 |b+1,a,c,d=>
 if decide (d<(a.length:Int))then
 yG a d>>=fun x2=>
 e92 b x2.type>>=fun r4=>
 e92 b x2.body>>=fun r6=>
 zIw b x2.cons>>=fun r8=>
 zIw b x2.fields>>=fun r10=>
 yV 192 c [(pN.mk x2.kind x2.name r4 r6 x2.fam x2.place x2.pars x2.inds x2.level r8 r10)]>>=fun l12=>
 Z3 b a l12 (xE (d+1))
 else
 some c
def e68(b:Nat)(a:yD):Option yD:=
 Z3 b a [] 0
theorem zPI:∀b:Nat,(∀ {a c d r},Z3 b a c d=some r->(∀j,dL 0 (pt 4021 f68) (sp j 34 0 [(3,zH yE c (.st 0 15)),(6,zH yE a .no),(7,ai (a.length:Int)),(8,ai d)]) (⟨[],0,[0],1,[]⟩) (fQ 0 (nQ 0 f68 (.sl (zF yE r) r.length .no) [] 0) [.blk 0,.seq (pt 63 f68)]))):=by
 intro b
 induction b with
 |zero=>
  exact fun h=>nn h
 |succ b ih=>
  intro a c d r h
  rw[Z3]at h
  obtain⟨h1,h⟩|⟨h1,h⟩:=xA h
  obtain⟨x2,h3,h⟩:=zD h
  obtain⟨r4,h5,h⟩:=zD h
  obtain⟨r6,h7,h⟩:=zD h
  obtain⟨r8,h9,h⟩:=zD h
  obtain⟨r10,h11,h⟩:=zD h
  obtain⟨l12,h13,h⟩:=zD h
  exact fun j=>lH 1 [] [] [1] [3,6,7,8] (oD (dE a)<|oD (dE l12)<|oP 4 (zNN h13 (by simp))<|oC 0 [] (zTE h11)<|rF 0<|oC 3 [] (zTE h9)<|oC 1 [] (c92 h7)<|oC 3 [] (c92 h5)<|oA 0 (vF (o:=.no) h3)<|oB 0 h1 o0) (ih h)
  obtain rfl:=sj h
  exact fun j=>lF 0 [] (oD (dE c)<|oB 0 h1 o0)
theorem c68{b a r}(h:e68 b a=some r):Ct 68 [] [zH yE a .no] (.sl (zF yE r) r.length .no) [] 0:=⟨by
 unfold e68 at h
 exact tH ⟨func68,rfl⟩ 1 [(none,3,15)] [] [0] [3,6,7,8] (oD (dE a)<|oD (dE ([]:yD)) o0) (zPI _ h),⟨⟨tv,dE _⟩,tv⟩,zB,dE _,zB⟩
def zEk(qq:Nat)(p0:zW):Option Unit:=
 some ()
theorem zLh{qq p0 r}(h:zEk qq p0=some r):Ct 252 [] [zH zC p0 .nl] (zH zC ([]:zW) .full) [] 0:=⟨by
 unfold zEk at h
 cases h
 exact tG ⟨func252,rfl⟩ 1 [] [] [] true (oD (dT ([]:zW)) o0),⟨⟨tv,dT _⟩,tv⟩,zB,dT _,zB⟩
def Z4(qq:Nat)(p0:zW):Option ((Unit) ⊕ zW):=
 if decide (List.length p0=0)then
 some (.inl ())
 else
 yV 40 ([]:zW) p0>>=fun l2=>
 some (.inr l2)
abbrev zFI (p0:zW) (C:Cf):Prop:=C 252 [] [zH zC p0 .nn] (zH zC ([]:zW) .full) [] 0
abbrev zFJ (p0 r:zW) (C:Cf):Prop:=C 252 [] [zH zC p0 .nn] (.ms 0 0 r.length r.length 3) [.row (zF zC r)] 0
theorem zEj:Qf 252 f252:=⟨func252,rfl⟩
theorem zEi{qq p0 r}(h:Z4 qq p0=some r):(match (generalizing:=false) r with | .inl x=>zFI p0 Ct | .inr x=>zFJ p0 x Ct):=by
 unfold Z4 at h
 obtain⟨h1,h⟩|⟨h1,h⟩:=xA h
 cases h
 exact⟨tG zEj 0 [] [] [] true (oD (dT ([]:zW))<|oQ 2 (zSc (of_decide_eq_true h1)) o0),⟨⟨tv,dT _⟩,tv⟩,zB,dT _,zB⟩
 obtain⟨l2,h3,h⟩:=zD h
 cases h
 exact⟨tF zEj 0 [0] (oD (dT l2)<|oM 2 (zSF h3 (of_decide_eq_false h1)) o0),⟨⟨tv,dT _⟩,tv⟩,zB,(lz rfl),(zA (dT _) zB)⟩
def Z5(qq:Nat)(p0:zW):Option (Unit ⊕ zW):=if decide (List.length p0=0)=true then some (.inl ())else(yV 40 [] p0)>>=fun r=>some (.inr r)
theorem Z6{qq:Nat}{p0:zW}{r:Unit ⊕ zW}(h:Z5 qq p0=some r):(match (generalizing:=false) r with | .inl _=>CT prog 252 [] [.sl (zF zC p0) p0.length .no] (.sl (zF zC ([]:zW)) (List.length ([]:zW)) .full) [] 0 | .inr x=>CT prog 252 [] [.sl (zF zC p0) p0.length .no] (.ms 0 0 x.length x.length 3) [.row (zF zC x)] 0):=by
 unfold Z5 at h
 obtain⟨h1,h⟩|⟨h1,h⟩:=xA h
 ·obtain rfl:=sj h
  have hp:p0=[]:=List.length_eq_zero_iff.1 (of_decide_eq_true h1)
  subst hp
  have k0:=zLh (qq:=qq) (p0:=[]) (r:=()) rfl
  have k1:=zEi (qq:=qq) (p0:=[]) (r:=.inl ()) rfl
  exact⟨wZ.nilcase (fun _=>k0.tri) k1.tri,⟨⟨trivial,dT _⟩,trivial⟩,(fun _ h=>nomatch h),dT _,(fun _ h=>nomatch h)⟩
 ·obtain⟨x,h2,h⟩:=zD h
  cases h
  have k1:=zEi (qq:=qq) (p0:=p0) (r:=.inr x) (by unfold Z4;rw[if_neg (by rw[h1];decide),h2];rfl)
  refine⟨wZ.nilcase (fun hn=>?_) k1.tri,⟨⟨trivial,dT _⟩,trivial⟩,(fun _ h=>nomatch h),(show 0<1 by decide),zA (dT _) zB⟩
  have hp:p0=[]:=gN xM (by decide) hn
  subst hp
  cases h1
def zLg(_qq:Nat)(p0:zW):Option zW:=yV 40 [] p0
theorem zPJ{qq:Nat}{p0:zW}{r:zW}(h:zLg qq p0=some r):CT prog 252 [] [.sl (zF zC p0) p0.length .no] (.sl (zF zC r) r.length (.st 0 3)) [] 1:=by
 have hr:r=p0:=by have:=(uB h).2;simpa using this
 subst hr
 by_cases h1:List.length r=0
 ·have hp:r=[]:=List.length_eq_zero_iff.1 h1
  subst hp
  exact CT.stampNil (Z6 (qq:=qq) (p0:=[]) (r:=.inl ()) rfl)
 ·exact CT.freezeS (Z6 (qq:=qq) (p0:=r) (r:=.inr r) (by unfold Z5;rw[if_neg (by simpa using h1),show yV 40 ([]:zW) r=some r from h];rfl)) (dT _) (wQ xM.len _)
end Go.Proofs.YthncfoeaibgmnaaGreat
