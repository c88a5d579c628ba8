/- Parts of the proof that the law returns true: walks of the functions, plain laws. -/
import Derived.ChangeArms
import Derived.ChangeShapes
import Derived.IntWalk
import Derived.Test.YtbpkpdnneffccaaGreatAbB2
set_option linter.unusedVariables false
set_option linter.unusedSimpArgs false
set_option linter.unusedSectionVars false
namespace Go.Ab
open Go Go.RowKit Go.Sort
variable {P:Program}
theorem Calls.args{P:Program}{f:FuncId}{a b:Array Value}{w:World}{R:Ending->World->Prop}(h:a=b)(k:Calls P f b w R):Calls P f a w R:=h▸k
theorem zLs{P:Program}{c:Code}{Q:Exit->Act->World->Prop}{a b:Act}{w:World}(h:a=b)(k:c.wp P Q b w):c.wp P Q a w:=h▸k
theorem aY{α:Type}[Inhabited α](enc:α->Value)(w:World)(b off:Nat)(d:Array α){k:Nat}(hk:k≠b):(putRow enc w b off d).heap[k]? = w.heap[k]?:=by
 simp only[putRow,mapBlock,Array.getElem?_modify]
 rw[if_neg (fun e=>hk e.symm)]
theorem wZ.putRow{α:Type}[Inhabited α](enc:α->Value)(w:World)(n b off:Nat)(d:Array α):wZ (fun c=>c<w.heap.size∧c≠b) w (putRow enc (Sort.ahead w n) b off d):=
 ⟨rfl,rfl,rfl,by simp,fun k hk=>by rw[aY _ _ _ _ _ hk.2];rfl⟩
theorem wZ.grow(w:World)(os:Array Obj)(b:Nat):wZ (fun c=>c<w.heap.size∧c≠b) w (grow w os):=
 ⟨rfl,rfl,rfl,by simp[Sort.grow],fun k hk=>by
  show (w.heap++os)[k]? = _
  rw[Array.getElem?_append_left hk.1]⟩
end Go.Ab
namespace Go.Proofs.YtbpkpdnneffccaaGreat
open Go Go.Ab Go.RowKit Go.Sort Go.Proofs Go.Proofs.Tryz
theorem o8{w:World}{b off cap:Nat}{zs:List Int}(hH:Holds (Value.int .i64) w b off zs.toArray)(hb:b<w.heap.size)(hsz:zs.length<4611686018427387904) :
  Calls prog 106 #[.slice (some ⟨b,off,none⟩) zs.length cap] w fun e w'=>e = .returned (.tuple #[])∧∃n os,w'=Sort.grow (putRow (Value.int .i64) (Sort.ahead w n) b off (zs.mergeSort fun x y=>decide (x≤y)).toArray) os:=
 AnyM.slices_Sort_int Tryz.sortI b off cap zs w hH hb hsz
theorem aZ{w:World}{b off cap:Nat}{zs:List Int}(hH:Holds (Value.int .i64) w b off zs.toArray)(hsz:zs.length<4611686018427387904)(hcap:zs.length≤cap) :
  Calls prog 107 #[.slice (some ⟨b,off,none⟩) zs.length cap] w fun e w'=>e = .returned (.slice (some ⟨b,off,none⟩) (Go.Lib.compactUpTo zs.toArray zs.toArray.size).length cap)∧∃q,w'=putRow (Value.int .i64) (Sort.ahead w q) b off (Go.Lib.compactUpTo zs.toArray zs.toArray.size++List.replicate (zs.toArray.size-(Go.Lib.compactUpTo zs.toArray zs.toArray.size).length) 0).toArray:=by
 have:=AnyE.slices_Compact Tryz.cmpI (Value.int .i64) (fun _=>rfl) (EqlAt.intD _ _ .i64) (NeqAt.intD _ _ .i64) 0 Tryz.zeroValue3 b off cap zs.toArray w hH (by simp;omega) (by simpa using hcap)
 simpa[show Tryz.cmpI_ren.f 43=107 from rfl]using this
theorem n9{w:World}{u:Value}{M:World->Prop}{N:World->Value->Prop}(hs:Calls prog 106 #[u] w fun e w1=>e = .returned (.tuple #[])∧M w1)(hc:∀w1,M w1->Calls prog 107 #[u] w1 fun e w2=>∃v,e = .returned v∧N w2 v) :
  Calls prog 76 #[u] w fun e w'=>∃v,e = .returned v∧N w' v:=by
 refine calls_of_wp func76 (c:=wT f76) (by kernel_rfl) ?_
 have k0:knd (wT f76)=1:=by kernel_rfl
 have k1:gY (sD (wT f76))=true:=by kernel_rfl
 have k2:List.range (xN (sD (wT f76))).size=[0]:=by kernel_rfl
 have k3:zIW (xN (sD (wT f76)))[0]? = some (some 2,.const (.slice none 0 0)):=by kernel_rfl
 have k4:knd (yO (wT f76))=1:=by kernel_rfl
 have k5:gY (sD (yO (wT f76)))=true:=by kernel_rfl
 have k6:List.range (xN (sD (yO (wT f76)))).size=[0,1]:=by kernel_rfl
 have k7:zIW (xN (sD (yO (wT f76))))[0]? = some (some 3,.tmp 0):=by kernel_rfl
 have k8:S5 (xN (sD (yO (wT f76))))[1]? = some (some 4,106,#[.tmp 3]):=by kernel_rfl
 have k9:knd (yO (yO (wT f76)))=1:=by kernel_rfl
 have k10:gY (sD (yO (yO (wT f76))))=true:=by kernel_rfl
 have k11:List.range (xN (sD (yO (yO (wT f76))))).size=[0,1,2]:=by kernel_rfl
 have k12:zIW (xN (sD (yO (yO (wT f76)))))[0]? = some (some 5,.tmp 0):=by kernel_rfl
 have k13:S5 (xN (sD (yO (yO (wT f76)))))[1]? = some (some 6,107,#[.tmp 5]):=by kernel_rfl
 have k14:zIW (xN (sD (yO (yO (wT f76)))))[2]? = some (some 2,.tmp 6):=by kernel_rfl
 have k15:zRT (yO (yO (yO (wT f76))))=true:=by kernel_rfl
 have k16:(f106.name == "runtime.NumGoroutine")=false:=by kernel_rfl
 have k17:f106.body.isNone=false:=by kernel_rfl
 have k18:(f107.name == "runtime.NumGoroutine")=false:=by kernel_rfl
 have k19:f107.body.isNone=false:=by kernel_rfl
 have k20:f76.ntmps=7:=by kernel_rfl
 have k21:f76.results = #[.tmp 2]:=by kernel_rfl
 rw[k20]
 revert k0 k1 k2 k3 k4 k5 k6 k7 k8 k9 k10 k11 k12 k13 k14 k15
 generalize wT f76=B
 intro k0 k1 k2 k3 k4 k5 k6 k7 k8 k9 k10 k11 k12 k13 k14 k15
 refine zAJ k0 ?_
 refine cN k1 k2 ?_
 refine aW k3 ?_
 unfold wpOps
 unfold Exit.then
 dsimp only
 refine zAJ k4 ?_
 refine cN k5 k6 ?_
 refine aW k7 ?_
 refine S6 k8 func106 k16 k17 ?_
 refine Calls.args (b:=#[u]) (by simp[Act.eval,Act.put]) (Calls.mono hs ?_)
 rintro e w1 ⟨rfl,hM⟩
 refine⟨_,rfl,?_⟩
 unfold wpOps
 unfold Exit.then
 dsimp only
 refine zLs (b:=⟨#[u,undef,.slice none 0 0,u,.tuple #[],undef,undef],[]⟩) (by simp[Act.eval,Act.put,Array.replicate_succ]) ?_
 refine zAJ k9 ?_
 refine cN k10 k11 ?_
 refine aW k12 ?_
 refine S6 k13 func107 k18 k19 ?_
 refine Calls.args (b:=#[u]) (by simp[Act.eval,Act.put]) (Calls.mono (hc w1 hM) ?_)
 rintro e w2 ⟨v,rfl,hN⟩
 refine⟨_,rfl,?_⟩
 refine aW k14 ?_
 unfold wpOps
 unfold Exit.then
 dsimp only
 refine zLs (b:=⟨#[u,undef,v,u,.tuple #[],u,v],[]⟩) (by simp[Act.eval,Act.put]) ?_
 refine zPG k15 ?_
 exact⟨rfl,v,by simp[results,k21],v,rfl,hN⟩
theorem zIZ{w:World}{b off cap:Nat}{zs:List Int}(hH:Holds (Value.int .i64) w b off zs.toArray)(hb:b<w.heap.size)(hsz:zs.length<4611686018427387904)(hcap:zs.length≤cap) :
  Calls prog 76 #[.slice (some ⟨b,off,none⟩) zs.length cap] w fun e w'=>e = .returned (.slice (some ⟨b,off,none⟩) (vI zs).length cap)∧wZ (fun c=>c<w.heap.size∧c≠b) w w' ∧
   ∀i (h:i<(vI zs).length),w'.cell? ⟨b,off+i,none⟩=some (.int .i64 (vI zs)[i]):=by
 have hl:(zs.mergeSort fun x y=>decide (x≤y)).length=zs.length:=List.length_mergeSort _
 refine(n9 (o8 (cap:=cap) hH hb hsz) (N:=fun w' v=>v = .slice (some ⟨b,off,none⟩) (vI zs).length cap∧wZ (fun c=>c<w.heap.size∧c≠b) w w' ∧
   ∀i (h:i<(vI zs).length),w'.cell? ⟨b,off+i,none⟩=some (.int .i64 (vI zs)[i])) ?_).mono (fun e w' ⟨v,h1,h2,h3,h4⟩=>⟨by rw[h1,h2],h3,h4⟩)
 rintro w1 ⟨n,os,rfl⟩
 have hH1:Holds (Value.int .i64) (Sort.grow (putRow (Value.int .i64) (Sort.ahead w n) b off (zs.mergeSort fun x y=>decide (x≤y)).toArray) os) b off (zs.mergeSort fun x y=>decide (x≤y)).toArray:=
  holds_grow _ _ _ _ _ _ (by simpa using hb) (holds_putRow _ _ _ _ zs.toArray _ hH (by simp[hl]))
 have hc:=aZ (cap:=cap) hH1 (by omega) (by omega)
 rw[hl]at hc
 refine Calls.mono hc ?_
 rintro e w2 ⟨rfl,q,rfl⟩
 refine⟨_,rfl,?_⟩
 rw[zIY]
 have hrl:=S9 zs
 refine⟨rfl,(wZ.trans (wZ.trans (wZ.putRow _ w n b off _) ((wZ.grow _ os b).mono fun k hk=>⟨by simpa using hk.1,hk.2⟩)) ((wZ.putRow _ _ q b off _).mono fun k hk=>⟨?_,hk.2⟩)),fun i h=>?_⟩
 ·show k<((putRow _ _ _ _ _).heap++os).size
  simp;have:=hk.1;omega
 ·rw[cell?_putRow (Value.int .i64) _ b off (zs.mergeSort fun x y=>decide (x≤y)).toArray _ (holds_ahead _ _ _ _ _ _ hH1) (by simp[hl];omega) i (by simp;omega)]
  simp[List.getElem?_append_left h,h]
theorem zRU:uH prog 107 [] [.sl [] 0 .no] (.sl [] 0 .no) [] 0:=
 uH.toFin xW mixed func107 (by kernel_rfl) 3000 [.no,.no] [] [] [] false (by kernel_rfl) (zW.cons (qL (es:=[]) trivial) zW.nil) (by decide)
def atW(w:World):Gh:=⟨fun _=>none,fun _=>none,fun _ _=>False,w,fun c=>c<w.heap.size,fun _=>False⟩
theorem zGe(w:World):yA (atW w) (yJ (wY 0) (H2 [])) w:=by
 refine⟨fun _=>⟨fun _=>.inr rfl,fun _=>⟨rfl,id⟩,fun e=>e.elim⟩,⟨0,fun _ _=>rfl⟩,fun _ _ _ h=>?_,fun _ _ _ h=>?_,fun _ _ h=>False.elim h,fun _ _=>rfl,fun _ h=>?_,fun _ _ _ _ _ _ _ h=>?_,wZ.refl _ _,fun _ h=>h⟩
 ·cases h
 ·cases h
 ·cases h
 ·cases h
theorem zCi(w:World):kU (0:Nat) (atW w):=⟨fun _ _=>⟨rfl,id⟩,fun _=>rfl,fun _ _ h=>False.elim h,trivial⟩
theorem V.none{G G':Gh}{w w':World}{v:Value}(h:V G w (.sl [] 0 .no) v):V G' w' (.sl [] 0 .no) v:=by
 simp only[V]at h ⊢
 obtain⟨cap,h1,⟨_,_,h2,h3,_⟩|⟨b,off,h2,_,_⟩⟩:=h
 ·exact⟨cap,h1,.inl ⟨trivial,trivial,h2,h3,trivial⟩⟩
 ·exact⟨cap,h1,.inr ⟨b,off,h2,by simp only[VC],trivial⟩⟩
theorem zJz{w:World}{u:Value}{p:Option Addr}{cap:Nat}(hu:u = .slice p 0 cap){G:Gh}(hV:V G w (.sl [] 0 .no) u) :
  Calls prog 76 #[u] w fun e w'=>∃v,e = .returned v∧(wZ (fun c=>c<w.heap.size) w w'∧∀G',V G' w' (.sl [] 0 .no) v):=by
 refine n9 (M:=fun w1=>w1=w) (by subst hu;exact AnyM.slices_Sort_int_none Tryz.sortI p cap w) ?_
 rintro w1 rfl
 refine(zRU (atW w1) w1 #[u] (zCi w1) (zGe w1) ?_).mono ?_
 ·simp only[VL];exact⟨V.none hV,trivial⟩
 ·rintro e w2 ⟨v,G',s',rfl,hE,hR,hv,_⟩
  refine⟨v,rfl,?_,fun G'=>V.none hv⟩
  have:=hR.below
  rw[hE.F,hE.w0]at this
  exact this
theorem VL.ints{G:Gh}{w:World}:∀l:List Int,VL G w (flat yH l) (l.map (Value.int .i64))
 | []=>by simp[flat,VL]
 |x::l=>by simp only[flat,List.flatMap_cons,List.map_cons];simp only[yH,List.cons_append,List.nil_append,VL,V];exact⟨trivial,VL.ints l⟩
theorem VL.ints_eq{G:Gh}{w:World}:∀(l:List Int) (us:List Value),VL G w (flat yH l) us->us=l.map (Value.int .i64)
 | [],[],_=>rfl
 | [],_::_,h=>by simp only[flat,List.flatMap_nil,VL]at h
 |x::l,[],h=>by simp only[flat,List.flatMap_cons,yH,List.cons_append,VL]at h
 |x::l,u::us,h=>by
  simp only[flat,List.flatMap_cons,yH,List.cons_append,List.nil_append,VL,V]at h
  rw[h.1,VL.ints_eq l us h.2];rfl
theorem m0{G:Gh}{w:World}{s:yT}{k:Nat}{l:List Int}{u:Value}(hR:yA G (yJ (wY 0) s) w)(ho:s.own.any (Nat.beq k)=true)(hsz:l.length<4611686018427387904)(hu:V G w (.sl (flat yH l) l.length (.st k 1)) u) :
  Calls prog 76 #[u] w fun e w'=>∃(v:Value) (b:Nat) (S:Nat->Nat->Prop),e = .returned v∧¬G.F b∧(∀i,G.ρ i≠some b)∧wZ (fun c=>c<w.heap.size∧c≠b) w w' ∧
   (∀c o,S c o->c=b∧∃x,w'.cell? ⟨c,o,none⟩=some x)∧∀G',(∀c o,S c o->G'.L c o)->V G' w' (.sl (flat yH (vI l)) (vI l).length .no) v:=by
 have hempty:l=[]->∀p cap,u = .slice p 0 cap->V G w (.sl [] 0 .no) u->Calls prog 76 #[u] w fun e w'=>∃(v:Value) (b:Nat) (S:Nat->Nat->Prop),e = .returned v∧¬G.F b∧(∀i,G.ρ i≠some b)∧wZ (fun c=>c<w.heap.size∧c≠b) w w' ∧
   (∀c o,S c o->c=b∧∃x,w'.cell? ⟨c,o,none⟩=some x)∧∀G',(∀c o,S c o->G'.L c o)->V G' w' (.sl (flat yH (vI l)) (vI l).length .no) v:=by
  rintro rfl p cap hp hV
  refine(zJz hp hV).mono ?_
  rintro e w' ⟨v,rfl,hK,hv⟩
  exact⟨v,w.heap.size,fun _ _=>False,rfl,fun h=>Nat.lt_irrefl _ (hR.base _ h),fun i hi=>Nat.lt_irrefl _ (hR.ρ_lt hi),hK.mono fun k hk=>hk.1,fun _ _ h=>h.elim,fun G' _=>hv G'⟩
 have hu0:=hu
 simp only[V]at hu
 obtain⟨cap,hcap,⟨he,hn,hc0,hu',_⟩|⟨b,off,rfl,hC,hq,hO⟩⟩:=hu
 ·have hl:l=[]:=List.length_eq_zero_iff.1 hn
  subst hl
  exact hempty rfl (iX u) 0 hu' (by simp only[V];exact⟨0,Nat.le_refl _,.inl ⟨trivial,trivial,rfl,hu',trivial⟩⟩)
 ·rcases hO with⟨hn,_⟩|⟨hm,hF,hτ⟩
  ·have hl:l=[]:=List.length_eq_zero_iff.1 hn
   subst hl
   exact hempty rfl _ cap rfl (by simp only[V];exact⟨cap,Nat.zero_le _,.inr ⟨b,off,rfl,by simp only[VC],trivial⟩⟩)
  ·obtain⟨b',f,t,q1,q2⟩:=hR.own k (by rw[tP];exact ho)
   rw[hτ]at q1
   cases q1
   rcases q2 with q2|⟨_,q3,_,vs,T,q5,q6⟩
   ·omega
   obtain⟨us,h1,h2⟩:=VC.cells _ _ _ hC
   have hus:=VL.ints_eq l us h1
   subst hus
   have hH:Holds (Value.int .i64) w b off l.toArray:=by
    intro j hj
    have hj':j<l.length:=by simpa using hj
    refine⟨?_,by simp[World.frozen?,q5]⟩
    rw[h2 j (by simpa using hj')]
    simp[hj']
   have hb:b<w.heap.size:=(Array.getElem?_eq_some_iff.1 q5).1
   refine(zIZ hH hb hsz hcap).mono ?_
   rintro e w' ⟨rfl,hK,hcell⟩
   refine⟨_,b,fun c o=>c=b∧off≤o∧o<off+(vI l).length,rfl,hF,q3,hK,?_,fun G' hS=>?_⟩
   ·rintro c o ⟨rfl,h1,h2⟩
    exact⟨rfl,.int .i64 ((vI l)[o-off]'(by omega)),by have:=hcell (o-off) (by omega);rwa[show off+(o-off)=o by omega]at this⟩
   ·simp only[V]
    refine⟨cap,Nat.le_trans (S9 l) hcap,.inr ⟨b,off,rfl,VC.of_cells _ _ b off (VL.ints (vI l)) (fun i hi=>hS _ _ ⟨rfl,by omega,?_⟩) (fun i hi=>?_),trivial⟩⟩
    ·have:i<(vI l).length:=by simpa using hi
     omega
    ·rw[hcell i (by simpa using hi)];simp
end Go.Proofs.YtbpkpdnneffccaaGreat
namespace Go.Ab
open Go Go.RowKit Go.Sort
structure L3 where
 a:Value
 b:Value
 c:Value
 ha:a.oneCell'=true
 hb:b.oneCell'=true
 hc:c.oneCell'=true
instance:Inhabited L3:=⟨⟨.int .i64 0,.int .i64 0,.int .i64 0,rfl,rfl,rfl⟩⟩
def L3.vs(x:L3):List Value:=[x.a,x.b,x.c]
def c3(x:L3):List AV:=[.val x.a,.val x.b,.val x.c]
theorem zEP:uU c3 3:=⟨fun _=>rfl,fun _=>⟨trivial,trivial,trivial,trivial⟩,fun x=>by simp[c3,AV.one,x.ha,x.hb,x.hc]⟩
def rJ(l:List L3):List Value:=l.flatMap L3.vs
theorem zGd:∀l:List L3,flat c3 l=(rJ l).map .val
 | []=>rfl
 |x::l=>by
  have:=zGd l
  simp only[flat,rJ]at this
  simp only[flat,rJ,List.flatMap_cons,List.map_append,this];rfl
theorem T3:∀l:List L3,(rJ l).length=l.length*3
 | []=>rfl
 |x::l=>by
  have:=T3 l
  simp only[rJ]at this
  simp only[rJ,List.flatMap_cons,List.length_append,this,L3.vs,List.length_cons,List.length_nil];omega
theorem zCh:∀(l:List L3) (i c:Nat) (hi:i<l.length) (hc:c<3),(rJ l)[i*3+c]? = some ((l[i].vs)[c]'(by simpa[L3.vs]using hc))
 |x::l,0,c,_,hc=>by
  simp only[rJ,List.flatMap_cons,Nat.zero_mul,Nat.zero_add,List.getElem_cons_zero]
  rw[List.getElem?_append_left (by simpa[L3.vs]using hc),List.getElem?_eq_getElem]
 |x::l,i+1,c,hi,hc=>by
  have:=zCh l i c (by simpa using hi) hc
  simp only[rJ]at this
  simp only[rJ,List.flatMap_cons,List.getElem_cons_succ]
  rw[List.getElem?_append_right (by simp[L3.vs];omega)]
  rw[←this];congr 1;simp[L3.vs];omega
theorem zGc(l:List L3)(t:Nat)(ht:t<l.length*3):(rJ l)[t]? = some (L3.vs l.toArray[t / 3]!)[t % 3]!:=by
 have h1:t / 3<l.length:=by omega
 have h2:t % 3<3:=Nat.mod_lt _ (by omega)
 have:=zCh l (t / 3) (t % 3) h1 h2
 rw[show t / 3*3+t % 3=t by omega]at this
 rw[this]
 have e:l.toArray[t / 3]! = l[t / 3]:=by simp[h1]
 rw[e]
 have h3:t % 3<l[t / 3].vs.length:=by simpa[L3.vs]using h2
 simp[h3]
theorem zEQ{w:World}{b off:Nat}{l:List L3}(hcell:∀i (h:i<(rJ l).length),w.cell? ⟨b,off+i,none⟩=some (rJ l)[i])(hfr:∀o,w.frozen? ⟨b,o,none⟩=false):HoldsK L3.vs 3 w b off l.toArray:=by
 intro t ht
 have ht':t<l.length*3:=by simpa using ht
 refine⟨?_,hfr _⟩
 have hlt:t<(rJ l).length:=by rw[T3];exact ht'
 rw[hcell t hlt,get_flatK _ _ _ _ (by simpa using ht')]
 have:=zGc l t ht'
 rw[List.getElem?_eq_getElem hlt]at this
 exact this
theorem zER{w:World}{b off:Nat}{l:List L3}(h:HoldsK L3.vs 3 w b off l.toArray):∀i (h:i<(rJ l).length),w.cell? ⟨b,off+i,none⟩=some (rJ l)[i]:=by
 intro t ht
 have ht':t<l.length*3:=by rw[T3]at ht;exact ht
 rw[(h t (by simpa using ht')).1,get_flatK _ _ _ _ (by simpa using ht')]
 have:=zGc l t ht'
 rw[List.getElem?_eq_getElem ht]at this
 exact this.symm
end Go.Ab
namespace Go.Proofs.YtbpkpdnneffccaaGreat
open Go Go.Ab Go.RowKit Go.Sort Go.Proofs Go.Proofs.Tryz
theorem zLr{w:World}{b off cap:Nat}{l:List L3}(hH:HoldsK L3.vs 3 w b off l.toArray)(hsz:l.length≤9223372036854775807) :
  Calls prog 87 #[.slice (some ⟨b,off,none⟩) l.length cap] w fun e w'=>e = .returned (.tuple #[])∧wZ (fun c=>c<w.heap.size∧c≠b) w w'∧∀i (h:i<(rJ l.reverse).length),w'.cell? ⟨b,off+i,none⟩=some (rJ l.reverse)[i]:=by
 have h1:∀x:L3,∀v∈x.vs,v.oneCell'=true:=by
  intro x v hv
  simp only[L3.vs,List.mem_cons,List.not_mem_nil,or_false]at hv
  rcases hv with rfl|rfl|rfl
  ·exact x.ha
  ·exact x.hb
  ·exact x.hc
 have:=AnyQ.slices_Reverse Tryz.revT 3 Tryz.isAgg31 Tryz.sizeOf31 L3.vs (fun _=>rfl) h1 b off cap l.toArray w hH (by simpa using hsz)
 refine Calls.mono (this:Calls prog 87 _ w _) ?_
 rintro e w' ⟨rfl,n,rfl⟩
 refine⟨rfl,wZ.putRow _ w n b off _,?_⟩
 have:=holdsK_putRowK L3.vs 3 (Sort.ahead w n) b off l.toArray l.toArray.reverse hH (by simp)
 refine zER ?_
 simpa using this
theorem V.st3{G:Gh}{w:World}{k n:Nat}{es:List AV}{u u':Value}(hn:n≠0)(h:V G w (.sl es n (.st k 3)) u)(h':V G w (.sl es n (.st k 3)) u')(_hes:es.length=n*3):u=u':=by
 simp only[V]at h h'
 obtain⟨cap,hc,⟨_,h0,_⟩|⟨b,off,rfl,_,_,ho⟩⟩:=h
 ·exact(hn h0).elim
 obtain⟨cap',hc',⟨_,h0,_⟩|⟨b',off',rfl,_,_,ho'⟩⟩:=h'
 ·exact(hn h0).elim
 rcases ho with ho|⟨_,_,ho⟩
 ·exact(hn ho.1).elim
 rcases ho' with ho'|⟨_,_,ho'⟩
 ·exact(hn ho'.1).elim
 rw[ho]at ho'
 simp only[Option.some.injEq,Prod.mk.injEq]at ho'
 obtain⟨rfl,e1,e2⟩:=ho'
 have:off=off':=by omega
 subst this
 have:cap=cap':=by omega
 subst this
 rfl
theorem zCg{G:Gh}{w:World}{s:yT}{k:Nat}{l:List L3}{u:Value}(hR:yA G (yJ (wY 0) s) w)(ho:s.own.any (Nat.beq k)=true)(hsz:l.length≤9223372036854775807)(hu:V G w (.sl (flat c3 l) l.length (.st k 3)) u) :
  Calls prog 87 #[u] w fun e w'=>∃(v:Value) (b:Nat) (S:Nat->Nat->Prop),e = .returned v∧¬G.F b∧(∀i,G.ρ i≠some b)∧wZ (fun c=>c<w.heap.size∧c≠b) w w' ∧
   (∀c o,S c o->c=b∧∃x,w'.cell? ⟨c,o,none⟩=some x)∧v = .tuple #[]∧∀G',(∀c o,S c o->G'.L c o)->∀es,VL G' w' es (rJ l.reverse)->∀u',V G w (.sl (flat c3 l) l.length (.st k 3)) u'->V G' w' (.sl es l.length .no) u':=by
 by_cases hl:l=[]
 ·subst hl
  have hp:∃p cap,u = .slice p 0 cap:=by
   simp only[V]at hu
   obtain⟨cap,_,⟨_,_,_,h,_⟩|⟨b,off,h,_⟩⟩:=hu
   ·exact⟨_,_,h⟩
   ·exact⟨_,_,h⟩
  obtain⟨p,cap,rfl⟩:=hp
  refine Calls.mono (AnyQ.slices_Reverse_empty Tryz.revT p cap w:Calls prog 87 _ w _) ?_
  rintro e w' ⟨rfl,rfl⟩
  refine⟨_,w'.heap.size,fun _ _=>False,rfl,fun h=>Nat.lt_irrefl _ (hR.base _ h),fun i hi=>Nat.lt_irrefl _ (hR.ρ_lt hi),wZ.refl _ _,fun _ _ h=>h.elim,rfl,fun G' _ es hes u' hu'=>?_⟩
  have hes':es=[]:=by
   have:=VL.length _ _ hes
   exact List.length_eq_zero_iff.1 this.symm
  subst hes'
  refine V.none (G:=G) (w:=w') ?_
  simp only[V]at hu' ⊢
  obtain⟨cap',h1,⟨_,_,h2,h3,_⟩|⟨b,off,h2,_,_⟩⟩:=hu'
  ·exact⟨cap',h1,.inl ⟨trivial,trivial,h2,h3,trivial⟩⟩
  ·exact⟨cap',h1,.inr ⟨b,off,h2,by simp only[VC],trivial⟩⟩
 ·have hn:l.length≠0:=fun h=>hl (List.length_eq_zero_iff.1 h)
  have hlen:(flat c3 l).length=l.length*3:=tQ zEP.len l
  have huniq:∀u',V G w (.sl (flat c3 l) l.length (.st k 3)) u'->u=u':=fun u' h=>V.st3 hn hu h hlen
  simp only[V]at hu
  obtain⟨cap,hcap,⟨_,h0,_⟩|⟨b,off,rfl,hC,hq,hO⟩⟩:=hu
  ·exact(hn h0).elim
  rcases hO with⟨h0,_⟩|⟨hm,hF,hτ⟩
  ·exact(hn h0).elim
  obtain⟨b',f,t,q1,q2⟩:=hR.own k (by rw[tP];exact ho)
  rw[hτ]at q1
  cases q1
  rcases q2 with q2|⟨_,q3,_,vs,T,q5,q6⟩
  ·rw[hlen]at q2
   have:=Nat.mul_le_mul_right 3 hcap
   omega
  obtain⟨us,h1,h2⟩:=VC.cells _ _ _ hC
  rw[zGd]at h1
  have hus:=VL.litEq _ us h1
  subst hus
  have hH:HoldsK L3.vs 3 w b off l.toArray:=zEQ h2 (fun o=>by simp[World.frozen?,q5])
  refine(zLr (cap:=cap) hH hsz).mono ?_
  rintro e w' ⟨rfl,hK,hcell⟩
  refine⟨_,b,fun c o=>c=b∧off≤o∧o<off+(rJ l.reverse).length,rfl,hF,q3,hK,?_,rfl,fun G' hS es hes u' hu'=>?_⟩
  ·rintro c o ⟨rfl,h1,h2⟩
   exact⟨rfl,(rJ l.reverse)[o-off]'(by omega),by have:=hcell (o-off) (by omega);rwa[show off+(o-off)=o by omega]at this⟩
  ·rw[←huniq u' hu']
   simp only[V]
   exact⟨cap,hcap,.inr ⟨b,off,rfl,VC.of_cells es _ b off hes (fun i hi=>hS _ _ ⟨rfl,by omega,by omega⟩) hcell,trivial⟩⟩
end Go.Proofs.YtbpkpdnneffccaaGreat
namespace Go.Ab
open Go Go.RowKit
def mT:List (ByteArray×Int)->Nat->List MapEntry
 | [],_=>[]
 |p::m,c=>{ key:=.string p.1,val:=.int .i64 p.2,born:=c } :: mT m (c+1)
def zAK(m:List (ByteArray×Int)):yF:=.obj (.map ⟨mT m 0⟩ m.length)
def zCf:List (ByteArray×Int)->ByteArray->Int
 | [],_=>0
 |p::m,k=>if (k==p.1)=true then p.2 else zCf m k
def T4:List (ByteArray×Int)->ByteArray->Int->List (ByteArray×Int)
 | [],k,v=>[(k,v)]
 |p::m,k,v=>if (k==p.1)=true then(k,v)::m else p::T4 m k v
def Z9:List (ByteArray×Int)->ByteArray->Nat->Option (Nat×Value)
 | [],_,_=>none
 |p::m,k,i=>if (k==p.1)=true then some (i,.int .i64 p.2)else Z9 m k (i+1)
theorem jC(k:ByteArray):∀(m:List (ByteArray×Int)) (c i:Nat),Instr.findNow .string (.string k) (mT m c) i=some (Z9 m k i)
 | [],_,_=>rfl
 |p::m,c,i=>by
  simp only[mT,Instr.findNow,Instr.sameNow,Z9]
  cases hb:(k==p.1)with
  |true=>rfl
  |false=>simp only[Bool.false_eq_true,if_false];exact jC k m (c+1) (i+1)
theorem zCe(k:ByteArray):∀(m:List (ByteArray×Int)) (i:Nat),zKJ (Z9 m k i) (.int .i64 0)=ai (zCf m k)
 | [],_=>rfl
 |p::m,i=>by
  simp only[Z9,zCf]
  cases hb:(k==p.1)with
  |true=>rfl
  |false=>simp only[Bool.false_eq_true,if_false];exact zCe k m (i+1)
theorem zCd(k:ByteArray)(v:Int):∀(m:List (ByteArray×Int)) (c i:Nat),
    (match Z9 m k i with
      |some (j,_)=>i≤j∧(mT m c).modify (j-i) (fun e=>{ e with key:=.string k,val:=.int .i64 v })=mT (T4 m k v) c∧(T4 m k v).length=m.length
      |none=>mT m c++[{ key:=.string k,val:=.int .i64 v,born:=c+m.length }]=mT (T4 m k v) c∧(T4 m k v).length=m.length+1)
  | [],c,i=>by simp[Z9,T4,mT]
  |p::m,c,i=>by
    simp only[Z9,T4]
    cases hb:(k==p.1)with
    |true=>simp[mT]
    |false=>
      simp only[Bool.false_eq_true,if_false]
      have ih:=zCd k v m (c+1) (i+1)
      cases hm:Z9 m k (i+1)with
      |none=>
        rw[hm]at ih
        simp only at ih ⊢
        refine⟨?_,by simp[ih.2]⟩
        simp only[mT,List.cons_append,List.length_cons]
        rw[←ih.1,show c+(m.length+1)=c+1+m.length by omega]
      |some q=>
        obtain⟨j,u⟩:=q
        rw[hm]at ih
        simp only at ih ⊢
        refine⟨by omega,?_,by simp[ih.2.2]⟩
        simp only[mT]
        rw[show j-i=(j-(i+1))+1 by omega,List.modify_succ_cons,ih.2.1]
variable {P:Program} {t kt et:TypeId} {ie:TypeInfo}
theorem zVL(ht:P.underlying t=some (.map kt et))(hk:P.underlying kt=some .string)(he:P.info? et=some ie)(hz:ie.zero=some (.int .i64 0))(m:List (ByteArray×Int))(k:ByteArray) :
  Ob.ok P (.lk t (zAK m) (at' k) false (ai (zCf m k))):=by
 intro ev i s hl
 unfold kQ
 simp only[ht,at',hk,he,zAK]at hl ⊢
 simp only[hl,hz,jC,rI,cond_true,Bool.false_eq_true,if_false,zCe]
theorem zVM(ht:P.underlying t=some (.map kt et))(hk:P.underlying kt=some .string)(m:List (ByteArray×Int))(k:ByteArray)(v:Int) :
  Ob.ok P (.mu t (zAK m) (at' k) (ai v) (zAK (T4 m k v))):=by
 intro ev i s hl
 unfold rU
 simp only[ht,at',ai,hk,zAK]at hl ⊢
 simp only[hl,jC,rI,cond_true]
 have h:=zCd k v m 0 0
 cases hm:Z9 m k 0 with
 |none=>
  rw[hm]at h
  simp only[Nat.zero_add]at h ⊢
  rw[h.2,←h.1]
  simp
 |some q=>
  obtain⟨j,u⟩:=q
  rw[hm]at h
  simp only[Nat.sub_zero]at h ⊢
  have e:(⟨mT m 0⟩:Array MapEntry).modify j (fun e=>{ e with key:=.string k,val:=.int .i64 v })=⟨mT (T4 m k v) 0⟩:=by
   apply Array.ext'
   rw[Array.toList_modify]
   exact h.2.1
  rw[h.2.2,e]
def T5(s:ByteArray)(i:Int):Option Int:=if 0≤i then(match s[i.toNat]? with|some b=>some (b.toNat:Int)|none=>none)else none
theorem zLq{k:IntKind}(ht:P.underlying t=some .string){s:ByteArray}{i x:Int}(h:T5 s i=some x):kP P t (at' s) (.val (.int k i))=some (.val (.int .u8 x)):=by
 unfold T5 at h
 unfold kP
 simp only[ht,at']
 split at h
 ·rename_i h0
  rw[if_pos h0]
  split at h
  ·rename_i b hb
   cases h
   rw[hb]
  ·cases h
 ·cases h
end Go.Ab
namespace Go.Ab
open Go Go.RowKit
structure Sub (G G':Gh) (p:Nat->Prop):Prop where
 F:G'.F=G.F
 ρ:∀i b,p i->G.ρ i=some b->G'.ρ i=some b
 τ:∀k q,G.τ k=some q->G'.τ k=some q
 L:∀b o,G.L b o->G'.L b o
 N:∀i,p i->G.N i->G'.N i
mutual
theorem V.less{G G':Gh}{w:World}{p:Nat->Prop}(h:Sub G G' p):∀(a:AV) (u:Value),a.fine p->V G w a u->V G' w a u
 | .val v,u,_,hv=>by simpa only[V]using hv
 | .agg cs,u,hi,hv=>by
  simp only[V,AV.fine]at hi hv ⊢
  obtain⟨vs,rfl,hl⟩:=hv
  exact⟨vs,rfl,VL.less h cs vs hi hl⟩
 | .tup cs,u,hi,hv=>by
  simp only[V,AV.fine]at hi hv ⊢
  obtain⟨vs,rfl,hl⟩:=hv
  exact⟨vs,rfl,VL.less h cs vs hi hl⟩
 | .sl es n o,u,hi,hv=>by
  simp only[V,AV.fine]at hi hv ⊢
  obtain⟨cap,hc,hh⟩:=hv
  refine⟨cap,hc,?_⟩
  rcases hh with⟨rfl,h2,h3,h4,h5⟩|⟨b,off,hu,hcells,ho⟩
  ·exact .inl ⟨rfl,h2,h3,h4,h5.mono h.τ⟩
  ·exact .inr ⟨b,off,hu,VC.data h.L es b off hi hcells,ho.mono h.F h.τ⟩
 | .ip es,u,hi,hv=>by
  simp only[V,AV.fine]at hi hv ⊢
  obtain⟨b,off,hu,hcells⟩:=hv
  exact⟨b,off,hu,VC.data h.L es b off hi hcells⟩
 | .mp i off,u,hi,hv=>by
  simp only[V,AV.fine]at hi hv ⊢
  obtain⟨b,hb,hu⟩:=hv
  exact⟨b,h.ρ _ _ hi hb,hu⟩
 | .ms i off n c sz,u,hi,hv=>by
  simp only[V,AV.fine]at hi hv ⊢
  rcases hv with⟨b,cap,hb,hu⟩|⟨hn,hN,hu⟩
  ·exact .inl ⟨b,cap,h.ρ _ _ hi hb,hu⟩
  ·exact .inr ⟨hn,h.N _ hi hN,hu⟩
 | .obj i,u,hi,hv=>by
  simp only[V,AV.fine]at hi hv ⊢
  obtain⟨b,hb,hu⟩:=hv
  exact⟨b,h.ρ _ _ hi hb,hu⟩
 | .clo g fs cs,u,hi,hv=>by
  simp only[V,AV.fine]at hi hv ⊢
  obtain⟨l,r',hu,h1,h2⟩:=hv
  exact⟨l,r',hu,VL.less h fs l hi.1 h1,VL.less h cs r' hi.2 h2⟩
theorem VL.less{G G':Gh}{w:World}{p:Nat->Prop}(h:Sub G G' p):∀(as0:List AV) (us:List Value),AV.fineL p as0->VL G w as0 us->VL G' w as0 us
 | [],[],_,_=>by simp only[VL]
 |a::as0,u::us,hi,hv=>by
  simp only[VL,AV.fineL]at hi hv ⊢
  exact⟨V.less h a u hi.1 hv.1,VL.less h as0 us hi.2 hv.2⟩
 | [],_::_,_,hv=>by simp only[VL]at hv
 |_::_,[],_,hv=>by simp only[VL]at hv
end
mutual
def AV.fz(m:Nat)(cs:List AV):AV->AV
 | .val v=>.val v
 | .agg l=>.agg (AV.fzL m cs l)
 | .tup l=>.tup (AV.fzL m cs l)
 | .sl es n o=>.sl es n o
 | .ip es=>.ip es
 | .mp i off=>.mp i off
 | .ms i off n c sz=>bif Nat.beq i m then .sl (cs.drop off) n .no else .ms i off n c sz
 | .obj i=>.obj i
 | .clo g a b=>.clo g a b
def AV.fzL(m:Nat)(cs:List AV):List AV->List AV
 | []=>[]
 |a::l=>AV.fz m cs a::AV.fzL m cs l
end
mutual
def AV.fzOk(m:Nat):AV->Prop
 | .val _=>True
 | .agg l=>AV.fzOkL m l
 | .tup l=>AV.fzOkL m l
 | .sl es _ _=>AV.DataL es
 | .ip es=>AV.DataL es
 | .mp i _=>i<m
 | .ms i off _ _ _=>(i=m∧off=0)∨i<m
 | .obj i=>i<m
 | .clo _ a b=>AV.fineL (fun i=>i<m) a∧AV.fineL (fun i=>i<m) b
def AV.fzOkL(m:Nat):List AV->Prop
 | []=>True
 |a::l=>AV.fzOk m a∧AV.fzOkL m l
end
theorem T6:∀(l:List AV) (n:Nat),AV.DataL l->AV.DataL (l.drop n)
 |l,0,h=>by simpa using h
 | [],_+1,_=>trivial
 |_::l,n+1,h=>by simpa using T6 l n h.2
mutual
theorem AV.fz_fine{m:Nat}{cs:List AV}(hc:AV.DataL cs):∀a:AV,a.fzOk m->(a.fz m cs).fine (fun i=>i<m)
 | .val _,_=>trivial
 | .agg l,h=>AV.fzL_fine hc l h
 | .tup l,h=>AV.fzL_fine hc l h
 | .sl _ _ _,h=>h
 | .ip _,h=>h
 | .mp _ _,h=>h
 | .ms i off n c sz,h=>by
  simp only[AV.fz]
  cases hb:Nat.beq i m with
  |true=>exact T6 _ _ hc
  |false=>
   rcases h with⟨rfl,_⟩|h
   ·simp at hb
   ·exact h
 | .obj _,h=>h
 | .clo _ _ _,h=>h
theorem AV.fzL_fine{m:Nat}{cs:List AV}(hc:AV.DataL cs):∀l:List AV,AV.fzOkL m l->AV.fineL (fun i=>i<m) (AV.fzL m cs l)
 | [],_=>trivial
 |a::l,h=>⟨AV.fz_fine hc a h.1,AV.fzL_fine hc l h.2⟩
end
mutual
theorem V.fz{G G':Gh}{w:World}{m:Nat}{cs:List AV}(h:Sub G G' (fun i=>i<m))(hm:∀b,G.ρ m=some b->VC G' w cs b 0)(hc:G.N m->cs=[]):∀(a:AV) (u:Value),a.fzOk m->V G w a u->V G' w (a.fz m cs) u
 | .val v,u,_,hv=>by simpa only[AV.fz,V]using hv
 | .agg l,u,hi,hv=>by
  simp only[V,AV.fzOk,AV.fz]at hi hv ⊢
  obtain⟨vs,rfl,hl⟩:=hv
  exact⟨vs,rfl,VL.fz h hm hc l vs hi hl⟩
 | .tup l,u,hi,hv=>by
  simp only[V,AV.fzOk,AV.fz]at hi hv ⊢
  obtain⟨vs,rfl,hl⟩:=hv
  exact⟨vs,rfl,VL.fz h hm hc l vs hi hl⟩
 | .sl es n o,u,hi,hv=>V.less h (.sl es n o) u hi hv
 | .ip es,u,hi,hv=>V.less h (.ip es) u hi hv
 | .mp i off,u,hi,hv=>V.less h (.mp i off) u hi hv
 | .ms i off n c sz,u,hi,hv=>by
  simp only[AV.fz]
  cases hb:Nat.beq i m with
  |false=>
   rcases hi with⟨rfl,_⟩|hi
   ·simp at hb
   ·exact V.less h (.ms i off n c sz) u hi hv
  |true=>
   have:=Nat.eq_of_beq_eq_true hb
   subst this
   simp only[V,cond_true]at hv ⊢
   rcases hi with⟨_,e0⟩|hi
   ·subst e0
    rcases hv with⟨b,cap,hb',hn,o,rfl,hro⟩|⟨⟨e1,_⟩,hN,p,rfl⟩
    ·rcases hro with⟨eo,_⟩|⟨_,h0⟩
     ·subst eo
      exact⟨cap,Nat.le_trans hn.1 hn.2,.inr ⟨b,_,rfl,by simpa using hm b hb',trivial⟩⟩
     ·exact absurd h0 (Nat.lt_irrefl _)
    ·rw[hc hN]
     subst e1
     exact⟨0,Nat.le_refl 0,.inl ⟨rfl,(by first|rfl|trivial),(by first|rfl|trivial),rfl,trivial⟩⟩
   ·exact absurd hi (Nat.lt_irrefl _)
 | .obj i,u,hi,hv=>V.less h (.obj i) u hi hv
 | .clo g a b,u,hi,hv=>V.less h (.clo g a b) u hi hv
theorem VL.fz{G G':Gh}{w:World}{m:Nat}{cs:List AV}(h:Sub G G' (fun i=>i<m))(hm:∀b,G.ρ m=some b->VC G' w cs b 0)(hc:G.N m->cs=[]):∀(as0:List AV) (us:List Value),AV.fzOkL m as0->VL G w as0 us->VL G' w (AV.fzL m cs as0) us
 | [],[],_,_=>by simp only[AV.fzL,VL]
 |a::as0,u::us,hi,hv=>by
  simp only[VL,AV.fzOkL,AV.fzL]at hi hv ⊢
  exact⟨V.fz h hm hc a u hi.1 hv.1,VL.fz h hm hc as0 us hi.2 hv.2⟩
 | [],_::_,_,hv=>by simp only[VL]at hv
 |_::_,[],_,hv=>by simp only[VL]at hv
end
def zCc(m:Nat):List (Nat×yF)->List (Nat×yF)
 | []=>[]
 |p::l=>bif Nat.blt p.1 m then p::zCc m l else zCc m l
theorem eF{m:Nat}:∀(l:List (Nat×yF)) (i:Nat),look (zCc m l) i=if i<m then look l i else none
 | [],i=>by simp[zCc,look]
 |p::l,i=>by
  simp only[zCc]
  cases hb:Nat.blt p.1 m with
  |true=>
   have hb':p.1<m:=Nat.le_of_ble_eq_true hb
   simp only[cond_true,look,eF l i]
   cases he:Nat.beq i p.1 with
   |true=>have:=Nat.eq_of_beq_eq_true he;simp only[cond_true];rw[if_pos (by omega)]
   |false=>simp only[cond_false]
  |false=>
   have hb':¬p.1<m:=by intro h;rw[Nat.blt,Nat.ble_eq_true_of_le h]at hb;cases hb
   simp only[cond_false,look,eF l i]
   cases he:Nat.beq i p.1 with
   |true=>have:=Nat.eq_of_beq_eq_true he;rw[if_neg (by omega),if_neg (by omega)]
   |false=>simp only[cond_false]
def yF.alive:yF->Bool
 | .dead=>false
 |_=>true
theorem uH.freeze{P:Program}{f:FuncId}{H0 H1:List yF}{args cs:List AV}{res:AV}{nst:Nat}(h:uH P f H0 args res (H1++[.row cs]) nst)(hle:H0.length≤H1.length)(hH1:∀X∈H1,X.fine (fun i=>i<H1.length))(hcs:AV.DataL cs)(hr:res.fzOk H1.length)(hnd:H1.all yF.alive=true) :
  uH P f H0 args (res.fz H1.length cs) H1 nst:=by
 intro G0 W cargs hB hR hv
 refine(h G0 W cargs hB hR hv).mono ?_
 rintro e W' ⟨u,G',s',rfl,hE,hR',hu,hb,ho⟩
 have hm:look s'.H H1.length=some (.row cs):=hb H1.length _ (by simp)
 have hm':(yJ (wY 0) s').H H1.length=some (.row cs):=by rw[xD];exact hm
 have real:∀b,G'.ρ H1.length=some b->¬G'.F b∧∃us:List Value,us.length=cs.length∧VL G' W' cs us∧∀i (hi:i<us.length),W'.cell? ⟨b,0+i,none⟩=some us[i]:=by
  intro b hρ
  obtain⟨hF,vs,T,hh,us,rest,hus,hvl⟩:=hR'.blk H1.length b _ hρ hm'
  refine⟨hF,us,VL.length _ _ hvl,hvl,fun i hi=>?_⟩
  have:vs[i]? = some us[i]:=by
   have h1:vs.toList[i]? = some us[i]:=by rw[hus,List.getElem?_append_left hi,List.getElem?_eq_getElem hi]
   simpa using h1
  rw[Nat.zero_add]
  simp[World.cell?,hh,this]
 have hNn:G'.N H1.length->cs=[]:=fun e=>yF.void_row (hR'.Nvoid e hm')
 let G'':Gh:={ G' with ρ:=fun i=>if i<H1.length then G'.ρ i else none,L:=fun c o=>G'.L c o∨(G'.ρ H1.length=some c∧o<cs.length),N:=fun i=>i<H1.length∧G'.N i }
 have hS:Sub G' G'' (fun i=>i<H1.length):=⟨rfl,fun i b hi e=>by show (if i<H1.length then G'.ρ i else none)=_;rw[if_pos hi];exact e,fun _ _ e=>e,fun _ _ e=>.inl e,fun _ hi e=>⟨hi,e⟩⟩
 have hC:∀b,G'.ρ H1.length=some b->VC G'' W' cs b 0:=fun b hρ=>by
  obtain⟨_,us,hlen,hvl,hcell⟩:=real b hρ
  exact VC.of_cells cs us b 0 (VL.data hS.L cs us hcs hvl) (fun i hi=>.inr ⟨hρ,by omega⟩) hcell
 have hσ:∀i,(yJ (wY 0) { s' with H:=zCc H1.length s'.H }).H i=if i<H1.length then look s'.H i else none:=fun i=>by rw[xD];exact eF _ _
 have hσ':∀i,(yJ (wY 0) s').H i=look s'.H i:=fun i=>xD _ _
 refine⟨u,G'',{ s' with H:=zCc H1.length s'.H },rfl,⟨fun i c hc=>?_,hE.τ,fun c o e=>.inl (hE.L c o e),hE.cell,hE.w0,hE.F,fun c o e=>?_,hE.room,fun i e=>?_⟩,⟨fun i=>?_,⟨H1.length,fun i hi=>?_⟩,fun i j c hi hj=>?_,fun i c X hi hX=>?_,fun c o hL=>?_,hR'.τns,fun k hk=>?_,hR'.ownd,hR'.below,hR'.base⟩,V.fz hS hC hNn _ _ hr hu,fun i X hX=>?_,ho⟩
 ·have hi:i<H0.length:=Nat.lt_of_not_le fun hge=>by rw[(hB.ρ i hge).1]at hc;cases hc
  show (if i<H1.length then G'.ρ i else none)=_
  rw[if_pos (by omega)];exact hE.ρ i c hc
 ·rcases e with e|⟨e,_⟩
  ·exact hE.newL c o e
  ·exact .inr (by rw[←hE.F];exact(real c e).1)
 ·have hi:i<H0.length:=Nat.lt_of_not_le fun hge=>(hB.ρ i hge).2 e
  exact⟨by omega,hE.N i e⟩
 ·rw[hσ]
  show lR (if i<H1.length then G'.ρ i else none) (i<H1.length∧G'.N i) _
  have hd:=hR'.dom i
  rw[hσ']at hd
  split
  ·rename_i hi
   exact⟨fun q=>(hd.1 q).imp (fun r=>⟨hi,r⟩) id,fun q=>⟨(hd.2.1 q).1,fun r=>(hd.2.1 q).2 r.2⟩,fun r=>hd.2.2 r.2⟩
  ·rename_i hi
   exact⟨fun _=>.inr rfl,fun _=>⟨rfl,fun r=>hi r.1⟩,fun r=>absurd r.1 hi⟩
 ·rw[hσ,if_neg (by omega)]
 ·have hi':(if i<H1.length then G'.ρ i else none)=some c:=hi
  have hj':(if j<H1.length then G'.ρ j else none)=some c:=hj
  split at hi'
  ·split at hj'
   ·rename_i h1 h2
    rw[hσ,hσ,if_pos h1,if_pos h2,←hσ',←hσ']
    exact hR'.inj i j c hi' hj'
   ·cases hj'
  ·cases hi'
 ·have hi':(if i<H1.length then G'.ρ i else none)=some c:=hi
  split at hi'
  ·rename_i hlt
   rw[hσ,if_pos hlt]at hX
   obtain⟨q1,q2⟩:=hR'.blk i c X hi' (by rw[hσ'];exact hX)
   refine⟨q1,?_⟩
   have hget:(H1++[.row cs])[i]? = some H1[i]:=by rw[List.getElem?_append_left hlt,List.getElem?_eq_getElem hlt]
   have:=hb i _ hget
   rw[this]at hX;cases hX
   have hf:=hH1 _ (List.getElem_mem hlt)
   cases hY:H1[i]with
   |cells ds=>
    rw[hY]at q2 hf
    obtain⟨vs',T',q3,q4⟩:=q2
    exact⟨vs',T',q3,q4.imp fun us=>VL.less hS _ us hf⟩
   |obj o=>rw[hY]at q2;exact q2
   |row ds=>
    rw[hY]at q2 hf
    obtain⟨vs',T',q3,q4⟩:=q2
    exact⟨vs',T',q3,q4.imp fun us=>VL.data hS.L _ us hf⟩
   |dead=>rw[hY]at q2;exact q2
  ·cases hi'
 ·rcases hL with hL|⟨hρ,hlt⟩
  ·obtain⟨q1,q2⟩:=hR'.live c o hL
   refine⟨q1,fun i hi=>?_⟩
   have hi':(if i<H1.length then G'.ρ i else none)=some c:=hi
   split at hi'
   ·exact q2 i hi'
   ·cases hi'
  ·obtain⟨_,us,hlen,hvl,hcell⟩:=real c hρ
   refine⟨⟨us[o]'(by omega),?_⟩,fun i hi=>?_⟩
   ·have:=hcell o (by omega)
    rwa[Nat.zero_add]at this
   ·have hi':(if i<H1.length then G'.ρ i else none)=some c:=hi
    split at hi'
    ·rename_i hlt'
     have hi2:look s'.H i=some H1[i]:=hb i _ (by rw[List.getElem?_append_left hlt',List.getElem?_eq_getElem hlt'])
     rcases hR'.inj i H1.length c hi' hρ with this|this|this
     ·omega
     ·rw[hσ',hi2]at this
      have h3:=List.all_eq_true.1 hnd _ (List.getElem_mem hlt')
      rw[Option.some.inj this]at h3
      cases h3
     ·rw[hσ',hm]at this;cases this
    ·cases hi'
 ·obtain⟨c,f1,t,q1,q2|⟨q2,q3,q4,q5⟩⟩:=hR'.own k hk
  ·exact⟨c,f1,t,q1,.inl q2⟩
  ·refine⟨c,f1,t,q1,.inr ⟨q2,fun i hi=>?_,fun o h1 h2 hL=>?_,q5⟩⟩
   ·have hi':(if i<H1.length then G'.ρ i else none)=some c:=hi
    split at hi'
    ·exact q3 i hi'
    ·cases hi'
   ·rcases hL with hL|⟨hρ,_⟩
    ·exact q4 o h1 h2 hL
    ·exact q3 _ hρ
 ·have hlt:=(List.getElem?_eq_some_iff.1 hX).1
  show look (zCc H1.length s'.H) i=some X
  rw[eF,if_pos hlt]
  exact hb i X (by rw[List.getElem?_append_left hlt];exact hX)
theorem CT.freeze{P:Program}{f:FuncId}{H0 H1:List yF}{args cs:List AV}{res res':AV}{nst:Nat}(h:CT P f H0 args res (H1++[.row cs]) nst)(hle:H0.length≤H1.length)(hH1:∀X∈H1,X.fine (fun i=>i<H1.length))(hcs:AV.DataL cs)(hr:res.fzOk H1.length)(hnd:H1.all yF.alive=true)(e:res.fz H1.length cs=res') :
  CT P f H0 args res' H1 nst:=by
 subst e
 exact⟨h.tri.freeze hle hH1 hcs hr hnd,h.args,h.H0,AV.fz_fine hcs _ hr,hH1⟩
theorem m1{G0 G':Gh}{W W':World}{s':yT}{u:Value}(sz:Nat)(hB:kU (0:Nat) G0)(hE:wK G0 W G' W')(hR':yA G' (yJ (wY 0) s') W')(hu:∃cap b o,(cap=0)∧(u = .slice (iX u) 0 0∨u = .slice (some ⟨b,o,none⟩) 0 cap)) :
  ∃u' G'' s'',Ending.returned u = .returned u'∧wK G0 W G'' W'∧yA G'' (yJ (wY 0) s'') W'∧V G'' W' (.sl [] 0 (.st 0 sz)) u'∧(∀i X,([]:List yF)[i]? = some X->look s''.H i=some X)∧∀k,k<1->s''.own.any (Nat.beq k)=true:=by
 let G'':Gh:={ G' with ρ:=fun _=>none,τ:=fun k=>if k=0 then some (0,1,0)else none,N:=fun _=>False }
 refine⟨u,G'',{ s' with H:=[],own:=[0],ns:=1 },rfl,⟨fun i c hc=>?_,fun k r hk=>?_,hE.L,hE.cell,hE.w0,hE.F,hE.newL,fun i c m hc=>?_,fun i e=>absurd e (hB.ρ i (Nat.zero_le _)).2⟩,⟨fun i=>?_,⟨0,fun i _=>?_⟩,fun i j c hi=>?_,fun i c X hi=>?_,fun c o hL=>?_,fun k hk=>?_,fun k hk=>?_,fun k k' _ _ _ _ _ hk hk'=>?_,hR'.below,hR'.base⟩,?_,fun i X hX=>?_,fun k hk=>?_⟩
 ·rw[(hB.ρ i (Nat.zero_le _)).1]at hc;cases hc
 ·rw[hB.τ k]at hk;cases hk
 ·rw[(hB.ρ i (Nat.zero_le _)).1]at hc;cases hc
 ·rw[xD];exact⟨fun _=>.inr rfl,fun _=>⟨rfl,id⟩,fun e=>e.elim⟩
 ·rw[xD];rfl
 ·cases hi
 ·cases hi
 ·exact⟨(hR'.live c o hL).1,fun i hi=>by cases hi⟩
 ·have hk1:1≤k:=hk
  show (if k=0 then some (0,1,0)else none)=none
  rw[if_neg (by omega)]
 ·rw[tP]at hk
  have e:k=0:=by simpa using hk
  subst e
  exact⟨0,1,0,rfl,.inl (by decide)⟩
 ·rw[tP]at hk hk'
  have e:k=0:=by simpa using hk
  have e':k'=0:=by simpa using hk'
  intros;omega
 ·obtain⟨cap,b,o,rfl,hu|rfl⟩:=hu
  ·simp only[V]
   exact⟨0,Nat.le_refl 0,.inl ⟨(by trivial),(by trivial),(by trivial),hu,_,rfl⟩⟩
  ·simp only[V]
   exact⟨0,Nat.le_refl 0,.inl ⟨(by trivial),(by trivial),(by trivial),(by first|rfl|trivial),_,rfl⟩⟩
 ·cases hX
 ·have:k=0:=by omega
  subst this;rfl
theorem uH.freezeS{P:Program}{f:FuncId}{args cs:List AV}{n c sz:Nat}(h:uH P f [] args (.ms 0 0 n c sz) [.row cs] 0)(hcs:AV.DataL cs)(hl:cs.length=n*sz) :
  uH P f [] args (.sl cs n (.st 0 sz)) [] 1:=by
 intro G0 W cargs hB hR hv
 refine(h G0 W cargs hB hR hv).mono ?_
 rintro e W' ⟨u,G',s',rfl,hE,hR',hu,hb,-⟩
 have hm:look s'.H 0=some (.row cs):=hb 0 _ (by simp)
 have hm':(yJ (wY 0) s').H 0=some (.row cs):=by rw[xD];exact hm
 simp only[V]at hu
 rcases hu with⟨b,cap,hρ,hn,o,rfl,hro⟩|⟨⟨e0,_⟩,hN,p,rfl⟩
 rotate_left
 ·have hcs0:=yF.void_row (hR'.Nvoid hN hm')
  subst e0
  try subst hcs0
  exact m1 sz hB hE hR' ⟨0,0,0,rfl,.inl rfl⟩
 obtain⟨hF,vs,T,hh,us,rest,hus,hvl⟩:=hR'.blk 0 b _ hρ hm'
 have hlen:=VL.length _ _ hvl
 rcases hro with⟨rfl,vs2,T2,hh2,hroom⟩|⟨_,h0⟩
 rotate_left
 ·exact absurd h0 (Nat.lt_irrefl _)
 rw[hh]at hh2;cases hh2
 let G'':Gh:={ G' with ρ:=fun _=>none,τ:=fun k=>if k=0 then some (b,0+cs.length,0+cap*sz)else none,L:=fun c o=>G'.L c o∨(c=b∧o<cs.length),N:=fun _=>False }
 have hcell:∀i (hi:i<us.length),W'.cell? ⟨b,0+i,none⟩=some us[i]:=by
  intro i hi
  have:vs[i]? = some us[i]:=by
   have h1:vs.toList[i]? = some us[i]:=by rw[hus,List.getElem?_append_left hi,List.getElem?_eq_getElem hi]
   simpa using h1
  rw[Nat.zero_add]
  simp[World.cell?,hh,this]
 have hC:VC G'' W' cs b 0:=VC.of_cells cs us b 0 (VL.data (G':=G'') (fun c o e=>Or.inl e) cs us hcs hvl) (fun i hi=>.inr ⟨rfl,by omega⟩) hcell
 refine⟨_,G'',{ s' with H:=[],own:=[0],ns:=1 },rfl,⟨fun i c hc=>?_,fun k r hk=>?_,fun c o e=>.inl (hE.L c o e),hE.cell,hE.w0,hE.F,fun c o e=>?_,fun i c m hc=>?_,fun i e=>absurd e (hB.ρ i (Nat.zero_le _)).2⟩,⟨fun i=>?_,⟨0,fun i _=>?_⟩,fun i j c hi=>?_,fun i c X hi=>?_,fun c o hL=>?_,fun k hk=>?_,fun k hk=>?_,fun k k' _ _ _ _ _ hk hk'=>?_,hR'.below,hR'.base⟩,?_,fun i X hX=>?_,fun k hk=>?_⟩
 ·rw[(hB.ρ i (Nat.zero_le _)).1]at hc;cases hc
 ·rw[hB.τ k]at hk;cases hk
 ·rcases e with e|⟨rfl,_⟩
  ·exact hE.newL c o e
  ·exact .inr (by rw[←hE.F];exact hF)
 ·rw[(hB.ρ i (Nat.zero_le _)).1]at hc;cases hc
 ·rw[xD];exact⟨fun _=>.inr rfl,fun _=>⟨rfl,id⟩,fun e=>e.elim⟩
 ·rw[xD];rfl
 ·cases hi
 ·cases hi
 ·rcases hL with hL|⟨rfl,hlt⟩
  ·exact⟨(hR'.live c o hL).1,fun i hi=>by cases hi⟩
  ·refine⟨⟨us[o]'(by omega),?_⟩,fun i hi=>by cases hi⟩
   have:=hcell o (by omega)
   rwa[Nat.zero_add]at this
 ·have hk1:1≤k:=hk
  show (if k=0 then some (b,0+cs.length,0+cap*sz)else none)=none
  rw[if_neg (by omega)]
 ·rw[tP]at hk
  have e:k=0:=by simpa using hk
  subst e
  refine⟨b,0+cs.length,0+cap*sz,rfl,.inr ⟨hF,fun i hi=>(by cases hi),fun o h1 h2 hL=>?_,vs,T,hh,hroom⟩⟩
  rcases hL with hL|⟨_,h3⟩
  ·exact(hR'.live b o hL).2 0 hρ
  ·omega
 ·rw[tP]at hk hk'
  have e:k=0:=by simpa using hk
  have e':k'=0:=by simpa using hk'
  intros;omega
 ·simp only[V]
  exact⟨cap,Nat.le_trans hn.1 hn.2,.inr ⟨b,0,rfl,hC,⟨_,rfl⟩,.inr ⟨hl,hF,rfl⟩⟩⟩
 ·cases hX
 ·have:k=0:=by omega
  subst this;rfl
theorem uH.stampNil{P:Program}{f:FuncId}{args:List AV}{sz:Nat}(h:uH P f [] args (.sl [] 0 .full) [] 0):uH P f [] args (.sl [] 0 (.st 0 sz)) [] 1:=by
 intro G0 W cargs hB hR hv
 refine(h G0 W cargs hB hR hv).mono ?_
 rintro e W' ⟨u,G',s',rfl,hE,hR',hu,hb,-⟩
 refine m1 sz hB hE hR' ?_
 simp only[V]at hu
 obtain⟨cap,hc,⟨_,_,h3,h4,_⟩|⟨b,off,rfl,_,ho⟩⟩:=hu
 ·exact⟨0,0,0,rfl,.inl h4⟩
 ·exact⟨cap,b,off,ho,.inr rfl⟩
theorem CT.freezeS{P:Program}{f:FuncId}{args cs:List AV}{n c sz:Nat}(h:CT P f [] args (.ms 0 0 n c sz) [.row cs] 0)(hcs:AV.DataL cs)(hl:cs.length=n*sz):CT P f [] args (.sl cs n (.st 0 sz)) [] 1:=
 ⟨h.tri.freezeS hcs hl,h.args,h.H0,hcs,fun _ h=>nomatch h⟩
theorem CT.stampNil{P:Program}{f:FuncId}{args:List AV}{sz:Nat}(h:CT P f [] args (.sl [] 0 .full) [] 0):CT P f [] args (.sl [] 0 (.st 0 sz)) [] 1:=
 ⟨h.tri.stampNil,h.args,h.H0,trivial,fun _ h=>nomatch h⟩
def gmk{α:Type}(B:Int)(d:α)(n:Int):Option (List α):=if 0≤n∧n*B≤140737488355328 then some (List.replicate n.toNat d)else none
def A0(n:Nat)(i:Int):Option Nat:=if 0≤i∧i<n then some i.toNat else none
def A4{α:Type}(l:List α)(k:Nat)(x:α):Option (List α):=if k<l.length then some (l.set k x)else none
def gfz{α:Type}(n:Nat)(l:List α):Option (List α):=if l.length=n then some l else none
theorem gZ{α:Type}{n:Nat}{l r:List α}(h:gfz n l=some r):r=l∧n=r.length:=by
 unfold gfz at h
 split at h
 ·rename_i e;cases h;exact⟨rfl,e.symm⟩
 ·cases h
theorem m3{f:Nat->AV}{s:Nat}(hs:0<s):∀n:Nat,(List.range (n*s)).map (fun j=>f (j % s))=(List.replicate n ((List.range s).map f)).flatten
 |0=>by simp
 |n+1=>by
  rw[Nat.add_mul,Nat.one_mul,List.range_add,List.map_append,m3 hs n,List.replicate_succ',List.flatten_append]
  congr 1
  simp only[List.map_map,List.flatten_cons,List.flatten_nil,List.append_nil]
  apply List.map_congr_left
  intro j hj
  have:j<s:=List.mem_range.1 hj
  simp[Function.comp,Nat.add_comm (n*s) j,Nat.mod_eq_of_lt this]
theorem zCb{α:Type}{c:α->List AV}{d:α}:∀n:Nat,(List.replicate n (c d)).flatten=flat c (List.replicate n d)
 |0=>rfl
 |n+1=>by simp only[List.replicate_succ,List.flatten_cons,flat,List.flatMap_cons];rw[zCb n];rfl
theorem zVP{P:Program}{α:Type}{c:α->List AV}{sz:Nat}{t e:TypeId}{ie:TypeInfo}{z:Value}(ht:P.underlying t=some (.slice e))(hi:P.info? e=some ie)(hs:ie.size=sz)(hz:ie.zero=some z)(hzs:z.cells.size=sz)(h1:1≤sz){B:Nat}(hb:ie.bytes=B)(hB:1≤B){d:α}
  (hd:(List.range sz).map (fun j=>(ofV 8 (z.cells.getD j undef)).frz)=c d) {n:Int} {l:List α} (h:gmk (B:Int) d n=some l):Ob.ok P (.mk (nH P t (ai n) (ai n)) (flat c l) l.length):=by
 unfold gmk at h
 split at h
 ·rename_i hc
  cases h
  show nH P t (ai n) (ai n)=some (flat c (List.replicate n.toNat d),(List.replicate n.toNat d).length)
  unfold nH
  simp only[ht,hi,hz]
  have hb':(B:Int)≥1:=by omega
  have hn:n≤n*B:=by
   have:=Int.mul_le_mul_of_nonneg_left hb' hc.1
   simpa using this
  rw[if_pos ⟨trivial,hc.1,by rw[hb];exact hc.2,by omega,by rw[hzs,hs],by rw[hs];exact h1⟩]
  simp only[List.length_replicate,Option.some.injEq,Prod.mk.injEq,and_true]
  rw[hs,hzs,m3 h1 (f:=fun j=>(ofV 8 (z.cells.getD j undef)).frz),hd,zCb]
 ·cases h
theorem zLp{P:Program}{t e:TypeId}{ie:TypeInfo}(ht:P.underlying t=some (.slice e))(hi:P.info? e=some ie){sz:Nat}(hs:ie.size=sz){b n k c z:Nat}{i:Int}(h:A0 n i=some k) :
  wH P t (.ms b 0 n c z) (ai i)=some (.mp b (k*sz)):=by
 unfold A0 at h
 split at h
 ·rename_i hc
  cases h
  unfold wH
  simp only[ht,hi]
  rw[if_pos hc,hs,Nat.zero_add]
 ·cases h
theorem zPH{α:Type}{c:α->List AV}{sz:Nat}(hc:uU c sz){l:List α}{k:Nat}{x:α}(h:zR l (k:Int)=some x):(flat c l).drop (k*sz)=c x++flat c (l.drop (k+1)):=by
 obtain⟨_,_,h2⟩:=H7 h
 exact zAH hc.len (by simpa using h2)
theorem zCa{α:Type}{c:α->List AV}{sz:Nat}(hc:∀x,(c x).length=sz):∀(l:List α) (k:Nat) (x:α),k<l.length->splice (flat c l) (k*sz) (c x)=flat c (l.set k x)
 | [],k,x,h=>by simp at h
 |y::l,0,x,h=>by
  simp only[splice,Nat.zero_mul,List.take_zero,List.nil_append,Nat.zero_add,flat,List.flatMap_cons,List.set_cons_zero]
  rw[List.drop_left' (by rw[hc,hc])]
 |y::l,k+1,x,h=>by
  have ih:=zCa hc l k x (by simpa using h)
  simp only[splice,flat]at ih
  simp only[splice,flat,List.flatMap_cons,List.set_cons_succ]
  rw[←ih]
  have e:(k+1)*sz=sz+k*sz:=by rw[Nat.add_mul,Nat.one_mul,Nat.add_comm]
  rw[e,List.take_append,List.take_of_length_le (by rw[hc];omega),hc,Nat.add_sub_cancel_left,show sz+k*sz+(c x).length=sz+(k*sz+(c x).length) by omega,←List.drop_drop,List.drop_left' (hc y)]
  simp only[List.append_assoc]
theorem zPI{P:Program}{α:Type}{c:α->List AV}{sz:Nat}(hc:uU c sz){l l2:List α}{k:Nat}{x:α}(h:A4 l k x=some l2):Ob.ok P (.wt (flat c l) (k*sz) (.agg (c x)) sz (flat c l2)):=by
 unfold A4 at h
 split at h
 ·rename_i hk
  cases h
  refine⟨hc.one x,hc.len x,?_,zCa hc.len l k x hk⟩
  rw[tQ hc.len]
  have:=Nat.mul_le_mul_right sz (show k+1≤l.length from hk)
  rw[Nat.add_mul,Nat.one_mul]at this
  exact this
 ·cases h
theorem ldE{P:Program}{α:Type}{c:α->List AV}{sz:Nat}(hc:uU c sz){l:List α}{k:Nat}{x:α}(h:zR l (k:Int)=some x)(q:Bool×Nat){val:AV}(e:pX q (c x++flat c (l.drop (k+1)))=some val) :
  Ob.ok P (.ld (pX q ((flat c l).drop (k*sz))) val):=by
 show pX q _=some val
 rw[zPH hc h,e]
theorem wtE{P:Program}{α:Type}{c:α->List AV}{sz:Nat}(hc:uU c sz){l l2:List α}{k:Nat}{x:α}{cs:List AV}(he:c x=cs)(h:A4 l k x=some l2):Ob.ok P (.wt (flat c l) (k*sz) (.agg cs) sz (flat c l2)):=he▸zPI hc h
theorem m4{P:Program}{α:Type}{c:α->List AV}{sz:Nat}(hc:uU c sz){t e:TypeId}{ie:TypeInfo}{z:Value}(ht:P.underlying t=some (.slice e))(hi:P.info? e=some ie)(hs:ie.size=sz)(hz:ie.zero=some z)(hzs:z.cells.size=sz)(h1:1≤sz){B:Nat}(hb:ie.bytes=B)(hB:1≤B)
  {l m r:List α} (h:xQ B l m=some r) (hm:m.length≠0) (z1:Option Nat) (hz1:∀q,z1=some q->q=sz) (src:Option (Nat×Nat×Nat)) (hsrc:∀q,src=some q->q.2.2=sz) :
  aQ P t t z1 (flat c l) l.length src (flat c m) m.length=some (flat c r,r.length):=by
 obtain⟨h2,rfl⟩:=qE h
 subst hs
 subst hb
 have h3:(l.length+m.length)*1≤(l.length+m.length)*ie.bytes:=Nat.mul_le_mul_left _ hB
 unfold aQ
 simp only[ht,hi,hz]
 rw[if_pos ⟨trivial,tQ hc.len l,tQ hc.len m,h1,hzs,h2,by omega,S2 hc.one m,hm,hz1,hsrc⟩,zCo,List.length_append]
theorem zCA{P:Program}{α:Type}{c:α->List AV}{sz:Nat}(hc:uU c sz){t e:TypeId}{ie:TypeInfo}{z:Value}(ht:P.underlying t=some (.slice e))(hi:P.info? e=some ie)(hs:ie.size=sz)(hz:ie.zero=some z)(hzs:z.cells.size=sz)(h1:1≤sz){B:Nat}(hb:ie.bytes=B)(hB:1≤B)
  {m r:List α} (h:xQ B ([]:List α) m=some r) (hm:m.length≠0):Ob.ok P (.mk (aQ P t t none [] 0 none (flat c m) m.length) (flat c r) r.length):=
 m4 hc ht hi hs hz hzs h1 hb hB h hm none (fun _ h=>nomatch h) none (fun _ h=>nomatch h)
theorem zCB{P:Program}{α:Type}{c:α->List AV}{sz:Nat}(hc:uU c sz){t e:TypeId}{ie:TypeInfo}{z:Value}(ht:P.underlying t=some (.slice e))(hi:P.info? e=some ie)(hs:ie.size=sz)(hz:ie.zero=some z)(hzs:z.cells.size=sz)(h1:1≤sz){B:Nat}(hb:ie.bytes=B)(hB:1≤B)
  {l m r:List α} (h:xQ B l m=some r) (hm:m.length≠0):Ob.ok P (.mk (aQ P t t (some sz) (flat c l) l.length none (flat c m) m.length) (flat c r) r.length):=
 m4 hc ht hi hs hz hzs h1 hb hB h hm _ (fun _ h=>(Option.some.inj h).symm) none (fun _ h=>nomatch h)
theorem zJy{P:Program}{α:Type}{c:α->List AV}{sz:Nat}(hc:uU c sz){t e:TypeId}{ie:TypeInfo}{z:Value}(ht:P.underlying t=some (.slice e))(hi:P.info? e=some ie)(hs:ie.size=sz)(hz:ie.zero=some z)(hzs:z.cells.size=sz)(h1:1≤sz){B:Nat}(hb:ie.bytes=B)(hB:1≤B)
  {l l' m r:List α} {n:Nat} (hf:gfz n l=some l') (h:xQ B l' m=some r) (hm:m.length≠0):Ob.ok P (.mk (aQ P t t (some sz) (flat c l) n none (flat c m) m.length) (flat c r) r.length):=by
 obtain⟨rfl,rfl⟩:=gZ hf
 exact zCB hc ht hi hs hz hzs h1 hb hB h hm
theorem zGa{P:Program}{t e:TypeId}{ie:TypeInfo}(ht:P.underlying t=some (.slice e))(hi:P.info? e=some ie){n:Nat}(h:n=0):Ob.ok P (.same t t n):=⟨rfl,h,e,ie,ht,hi⟩
abbrev zO {α:Type} (c:α->List AV) (l:List α) (o:qA):AV:=.sl (flat c l) l.length o
abbrev N9 (n:Nat):List iP:=List.replicate n .no
structure OL (P:Program) (os:List iP) (ob:List Ob):Prop where
 ok:zW P ob
theorem zW.rev{P:Program}:∀(a b:List Ob),zW P a->zW P b->zW P (a.reverseAux b)
 | [],_,_,k=>k
 |x::a,b,h,k=>zW.rev a (x::b) h.2 ⟨h.1,k⟩
section
variable {P:Program} {os:List iP} {ob:List Ob}
theorem OL.nil:OL P [] []:=⟨trivial⟩
theorem oB{b b':Bool}(n:Nat)(h:b=b')(k:OL P os ob):OL P (.bit b'::(N9 n++os)) (.bit b b'::ob):=⟨⟨h,k.ok⟩⟩
theorem oA{x:Option AV}{a:AV}(n:Nat)(h:x=some a)(k:OL P os ob):OL P (.av a::(N9 n++os)) (.av x a::ob):=⟨⟨h,k.ok⟩⟩
theorem oC{f:FuncId}{H0:List yF}{args:List AV}{res:AV}{H1:List yF}{nst:Nat}(n:Nat)(ι:List Nat)(h:CT P f H0 args res H1 nst)(k:OL P os ob):OL P (.call ι H1 nst res none::(N9 n++os)) (.call f H0 args res H1 nst::ob):=⟨⟨h,k.ok⟩⟩
theorem oK{b b':Bool}{f:FuncId}{H0:List yF}{args:List AV}{res:AV}{H1:List yF}{nst:Nat}(n:Nat)(ι:List Nat)(hb:b=b')(h:CT P f H0 args res H1 nst)(k:OL P os ob):OL P (.call ι H1 nst res (some b')::(N9 n++os)) (.call f H0 args res H1 nst :: .bit b b'::ob):=⟨⟨h,hb,k.ok⟩⟩
theorem oF{x:Option AV}{a:AV}(n:Nat)(h:∃a0,x=some a0∧a0.frz=a)(k:OL P os ob):OL P (.fz a::(N9 n++os)) (.fz x a::ob):=⟨⟨h,k.ok⟩⟩
theorem oP{t t2:TypeId}{es es2 es':List AV}{n1 n2 n' sz:Nat}{e:Bool}(n:Nat)(h:Ob.ok P (.app t t2 es es2 es' n1 n2 n' sz e))(k:OL P os ob):OL P (.app es' n' sz e::(N9 n++os)) (.app t t2 es es2 es' n1 n2 n' sz e::ob):=⟨⟨h,k.ok⟩⟩
theorem oS{cs es:List AV}{l m:Nat}(n:Nat)(h:Ob.ok P (.cells cs es l m))(k:OL P os ob):OL P (.sl es m::(N9 n++os)) (.cells cs es l m::ob):=⟨⟨h,k.ok⟩⟩
theorem oL{t:TypeId}{X:yF}{key:AV}{o:Bool}{a:AV}(n:Nat)(h:Ob.ok P (.lk t X key o a))(k:OL P os ob):OL P (.lk a::(N9 n++os)) (.lk t X key o a::ob):=⟨⟨h,k.ok⟩⟩
theorem oU{t:TypeId}{X Y:yF}{key v:AV}(n:Nat)(h:Ob.ok P (.mu t X key v Y))(k:OL P os ob):OL P (.mu Y::(N9 n++os)) (.mu t X key v Y::ob):=⟨⟨h,k.ok⟩⟩
theorem oM{x:Option (List AV×Nat)}{cs:List AV}{m:Nat}(n:Nat)(h:Ob.ok P (.mk x cs m))(k:OL P os ob):OL P (.mk cs m::(N9 n++os)) (.mk x cs m::ob):=⟨⟨h,k.ok⟩⟩
theorem oG{x:Option AV}{a:AV}(n:Nat)(h:Ob.ok P (.ld x a))(k:OL P os ob):OL P (.ld a::(N9 n++os)) (.ld x a::ob):=⟨⟨h,k.ok⟩⟩
theorem oW{cs:List AV}{off:Nat}{v:AV}{sz:Nat}{cs':List AV}(n:Nat)(h:Ob.ok P (.wt cs off v sz cs'))(k:OL P os ob):OL P (.wt cs'::(N9 n++os)) (.wt cs off v sz cs'::ob):=⟨⟨h,k.ok⟩⟩
theorem oQ{t t2:TypeId}{m:Nat}(n:Nat)(h:Ob.ok P (.same t t2 m))(k:OL P os ob):OL P (.same::(N9 n++os)) (.same t t2 m::ob):=⟨⟨h,k.ok⟩⟩
theorem oD{es:List AV}(h:AV.DataL es)(k:OL P os ob):OL P os (.data es::ob):=⟨⟨h,k.ok⟩⟩
end
theorem zL{α:Type}{b:Bool}{x y:Option α}{r:α}(h:(if b=true then x else y)=some r):(b=true∧x=some r)∨(b=false∧y=some r):=by
 cases b
 ·exact .inr ⟨rfl,by simpa using h⟩
 ·exact .inl ⟨rfl,by simpa using h⟩
theorem O0{α:Type}{b:Bool}{x:Option α}{r:α}(h:(if b=true then x else none)=some r):b=true∧x=some r:=by
 rcases zL h with h|⟨_,h⟩
 ·exact h
 ·cases h
theorem zVQ{α:Type}{b:Bool}{x:Option α}{r:α}(h:(if b=true then none else x)=some r):b=false∧x=some r:=by
 rcases zL h with⟨_,h⟩|h
 ·cases h
 ·exact h
theorem nn{α:Type}{r:α}{p:Prop}(h:(none:Option α)=some r):p:=nomatch h
theorem zPJ{α:Type}{b:Bool}{x y:α}(h:b=true):(if b=true then x else y)=x:=if_pos h
theorem zLo{α:Type}{b:Bool}{x y:α}(h:b=false):(if b=true then x else y)=y:=by subst h;rfl
theorem sj{α:Type}{x y:α}(h:some x=some y):x=y:=Option.some.inj h
def sp(j:Nat->Value):Nat->Nat->List (Nat×AV)->List AV
 |0,_,_=>[]
 |n+1,i,l=>match l with
  | []=>.val (j i)::sp j n (i+1) []
  | (m,a)::l'=>bif Nat.beq m i then a::sp j n (i+1) l' else .val (j i)::sp j n (i+1) l
section
variable {P:Program} {pr:FuncId->List AV->yT->Option LA} (hp:pT P pr) (hm:P.follows .mixedOrders=true) {na:Nb} {fn:Func} {f:FuncId}
include hp hm
theorem OL.toHead{H0 H1:List yF}{args:List AV}{res:AV}{nst:Nat}(q:P.funcs[f]? = some fn∧fn.body.isNone=false)(m:Nat)(rs:List (Option Nat×Nat×Nat))(keep ks live:List Nat){os:List iP}{ob:List Ob}(k:OL P os ob){c:Code}{fs':List Fr}{E:(Nat->Value)->List AV}{S:yT}
  (hk:∀j,Dl P H0.length c (E j) S (vL P H0.length (S1 P H0.length fn res H1 nst) fs'))
  (h:∀j,gU P pr H0.length 3000 (.run (wT fn)) [] (args++List.replicate (fn.ntmps-args.length) (.val undef)) (H2 H0) ((N9 m++os).reverseAux []) rs keep ks live j=some (c,fs',E j,S,ob.reverseAux [])):uH P f H0 args res H1 nst:=
 uH.toHead hp hm q.1 q.2 3000 _ rs keep ks live h (zW.rev _ _ k.ok trivial) hk
theorem OL.toFin{H0 H1:List yF}{args:List AV}{res:AV}{nst:Nat}(q:P.funcs[f]? = some fn∧fn.body.isNone=false)(m:Nat)(rs:List (Option Nat×Nat×Nat))(keep ks:List Nat)(own:Bool){os:List iP}{ob:List Ob}(k:OL P os ob)
  (h:dA P pr H0.length fn 3000 (.run (wT fn)) [] (args++List.replicate (fn.ntmps-args.length) (.val undef)) (H2 H0) ((N9 m++os).reverseAux []) rs keep ks own=some (res,H1,ob.reverseAux [])) (hn:nst≤ks.length):uH P f H0 args res H1 nst:=
 uH.toFin hp hm q.1 q.2 3000 _ rs keep ks own h (zW.rev _ _ k.ok trivial) hn
theorem OL.lHead{Q:AX->List AV->yT->Prop}{c c':Code}{fs fs':List Fr}{env:List AV}{s S:yT}(m:Nat)(rs:List (Option Nat×Nat×Nat))(keep ks live:List Nat){os:List iP}{ob:List Ob}(k:OL P os ob){E:(Nat->Value)->List AV}
  (hk:∀j,Dl P na c' (E j) S (vL P na Q fs')) (h:∀j,gU P pr na.n 3000 (.run c) (.loop c::fs) env s ((N9 m++os).reverseAux []) rs keep ks live j=some (c',fs',E j,S,ob.reverseAux [])):Dl P na c env s (vL P na Q fs):=
 Dl.toHead hp hm 3000 _ rs keep ks live h (zW.rev _ _ k.ok trivial) hk
theorem OL.lFin{c:Code}{fs:List Fr}{env:List AV}{s:yT}{res:AV}{H1:List yF}{nst:Nat}(m:Nat)(rs:List (Option Nat×Nat×Nat))(keep ks:List Nat)(own:Bool){os:List iP}{ob:List Ob}(k:OL P os ob)
  (h:dA P pr na.n fn 3000 (.run c) (.loop c::fs) env s ((N9 m++os).reverseAux []) rs keep ks own=some (res,H1,ob.reverseAux [])) (hn:nst≤ks.length):Dl P na c env s (vL P na (S1 P na fn res H1 nst) fs):=
 Dl.toFin hp hm 3000 _ rs keep ks own h (zW.rev _ _ k.ok trivial) hn
end
section
variable {P:Program} {os:List iP} {ob:List Ob}
theorem oCl(n:Nat)(k:OL P os ob):OL P (.cl::(N9 n++os)) ob:=⟨k.ok⟩
end
end Go.Ab
set_option linter.unusedSimpArgs false
namespace Go.Ab
open Go Go.RowKit
theorem xJ{P:Program}{α:Type}{C L:α->List AV}(he:∀t,C t=L t)(l:List α):Ob.ok P (.cells (flat L l) (flat C l) l.length l.length):=⟨by rw[show L=C from funext fun t=>(he t).symm],rfl⟩
structure yL where
 row_:Int
 binds_:List Tm
 term_:Tm
instance:Inhabited yL:=⟨⟨default,default,default⟩⟩
def zCC(x:yL):List AV:=[ai x.row_,zO zD x.binds_ .no,ai x.term_.k,ai x.term_.n,zO zD x.term_.sub .no]
def vD(x:yL):AV:=.agg (zCC x)
inductive zF where
 |mk (kind_:Int) (n_:Int) (at_:Int) (sub_:List zF) (t_:Tm)
def zF.kind_:zF->Int | .mk x _ _ _ _=>x
def zF.n_:zF->Int | .mk _ x _ _ _=>x
def zF.at_:zF->Int | .mk _ _ x _ _=>x
def zF.sub_:zF->List zF | .mk _ _ _ x _=>x
def zF.t_:zF->Tm | .mk _ _ _ _ x=>x
instance:Inhabited zF:=⟨.mk default default default default default⟩
mutual
def zP:zF->List AV
 | .mk kind_ n_ at_ sub_ t_=>[ai kind_,ai n_,ai at_,.sl (rA sub_) sub_.length .no,ai t_.k,ai t_.n,zO zD t_.sub .no]
def rA:List zF->List AV
 | []=>[]
 |t::l=>zP t++rA l
end
theorem pP:∀l:List zF,rA l=flat zP l
 | []=>rfl
 |t::l=>by simp only[rA,pP l,flat,List.flatMap_cons]
def mU(x:zF):List AV:=[ai x.kind_,ai x.n_,ai x.at_,zO zP x.sub_ .no,ai x.t_.k,ai x.t_.n,zO zD x.t_.sub .no]
theorem sK(x:zF):zP x=mU x:=by
 cases x;simp only[zP,mU,zF.kind_,zF.n_,zF.at_,zF.sub_,zF.t_,pP,List.cons_append,List.nil_append]
def vN(x:zF):AV:=.agg (mU x)
mutual
theorem iS:∀t:zF,AV.DataL (zP t)
 | .mk kind_ n_ at_ sub_ t_=>by rw[zP];exact⟨trivial,trivial,trivial,⟨trivial,lZ sub_⟩,trivial,trivial,⟨trivial,dT _⟩,trivial⟩
theorem lZ:∀l:List zF,AV.DataL (rA l)
 | []=>trivial
 |t::l=>by rw[rA];exact qK (iS t) (lZ l)
end
theorem rR:uU zP 7:=⟨fun x=>by rw[sK];rfl,iS,fun x=>by rw[sK];rfl⟩
theorem zS(l:List zF):AV.DataL (flat zP l):=uR rR.data l
structure zJ where
 pats_:List zF
 has_:Bool
 body_:Tm
instance:Inhabited zJ:=⟨⟨default,default,default⟩⟩
def zY(x:zJ):List AV:=[zO zP x.pats_ .no,ab x.has_,ai x.body_.k,ai x.body_.n,zO zD x.body_.sub .no]
def w5(x:zJ):AV:=.agg (zY x)
theorem qN:uU zY 5:=⟨fun _=>rfl,fun _=>⟨⟨trivial,zS _⟩,trivial,trivial,trivial,⟨trivial,dT _⟩,trivial⟩,fun _=>rfl⟩
theorem yC(l:List zJ):AV.DataL (flat zY l):=uR qN.data l
inductive xE where
 |mk (kind_:Int) (n_:Int) (at_:Int) (sub_:List xE) (t_:Tm)
def xE.kind_:xE->Int | .mk x _ _ _ _=>x
def xE.n_:xE->Int | .mk _ x _ _ _=>x
def xE.at_:xE->Int | .mk _ _ x _ _=>x
def xE.sub_:xE->List xE | .mk _ _ _ x _=>x
def xE.t_:xE->Tm | .mk _ _ _ _ x=>x
instance:Inhabited xE:=⟨.mk default default default default default⟩
mutual
def tK:xE->List AV
 | .mk kind_ n_ at_ sub_ t_=>[ai kind_,ai n_,ai at_,.sl (kA sub_) sub_.length .no,ai t_.k,ai t_.n,zO zD t_.sub .no]
def kA:List xE->List AV
 | []=>[]
 |t::l=>tK t++kA l
end
theorem A5:∀l:List xE,kA l=flat tK l
 | []=>rfl
 |t::l=>by simp only[kA,A5 l,flat,List.flatMap_cons]
def zAL(x:xE):List AV:=[ai x.kind_,ai x.n_,ai x.at_,zO tK x.sub_ .no,ai x.t_.k,ai x.t_.n,zO zD x.t_.sub .no]
theorem eG(x:xE):tK x=zAL x:=by
 cases x;simp only[tK,zAL,xE.kind_,xE.n_,xE.at_,xE.sub_,xE.t_,A5,List.cons_append,List.nil_append]
def zGA(x:xE):AV:=.agg (zAL x)
mutual
theorem L4:∀t:xE,AV.DataL (tK t)
 | .mk kind_ n_ at_ sub_ t_=>by rw[tK];exact⟨trivial,trivial,trivial,⟨trivial,A6 sub_⟩,trivial,trivial,⟨trivial,dT _⟩,trivial⟩
theorem A6:∀l:List xE,AV.DataL (kA l)
 | []=>trivial
 |t::l=>by rw[kA];exact qK (L4 t) (A6 l)
end
theorem L5:uU tK 7:=⟨fun x=>by rw[eG];rfl,L4,fun x=>by rw[eG];rfl⟩
theorem pV(l:List xE):AV.DataL (flat tK l):=uR L5.data l
structure wB where
 pats_:List xE
 has_:Bool
 body_:Tm
instance:Inhabited wB:=⟨⟨default,default,default⟩⟩
def tB(x:wB):List AV:=[zO tK x.pats_ .no,ab x.has_,ai x.body_.k,ai x.body_.n,zO zD x.body_.sub .no]
theorem fA:uU tB 5:=⟨fun _=>rfl,fun _=>⟨⟨trivial,pV _⟩,trivial,trivial,trivial,⟨trivial,dT _⟩,trivial⟩,fun _=>rfl⟩
theorem uJ(l:List wB):AV.DataL (flat tB l):=uR fA.data l
structure zJx where
 l_:List zU
 parts_:List sZ
instance:Inhabited zJx:=⟨⟨default,default⟩⟩
structure zJw where
 e_:Int
instance:Inhabited zJw:=⟨⟨default⟩⟩
end Go.Ab
namespace Go.Proofs.YtbpkpdnneffccaaGreat
open Go Go.Ab Go.Proofs.Tryz
theorem H9(b:Bool):b=true∨b=false:=by cases b<;>simp
theorem zA{α:Type}{p:α->Prop}:∀x∈([]:List α),p x:=fun _ h=>nomatch h
theorem zC{α:Type}{p:α->Prop}{a:α}{l:List α}(h:p a)(k:∀x∈l,p x):∀x∈a::l,p x:=by
 intro x hx
 rcases List.mem_cons.1 hx with rfl|hx
 ·exact h
 ·exact k x hx
theorem o0:OL prog [] []:=OL.nil
abbrev mB (M:wF) (i:Nat):yF:=.cells [zO yZ M.l .no,.mp i 0,zO yH M.args .no,zO yH M.own .no]
abbrev mR (M:wF):yF:=.cells [zO yZ M.rl .no,zO oE M.parts .no]
theorem tv:True:=trivial
theorem lz{a b:Nat}(h:Nat.ble (a+1) b=true):a<b:=Nat.le_of_ble_eq_true h
abbrev Ct:=CT prog
abbrev Ci:=uH prog
abbrev Cf:=FuncId->List yF->List AV->AV->List yF->Nat->Prop
abbrev Qf (f:FuncId) (fn:Func):Prop:=prog.funcs[f]? = some fn∧fn.body.isNone=false
section
variable {f:FuncId} {fn:Func} {H0 H1:List yF} {args:List AV} {res:AV} {nst:Nat} {os:List iP} {ob:List Ob}
theorem tF(q:Qf f fn)(m:Nat)(keep:List Nat)(k:OL prog os ob)(h:dA prog sO H0.length fn 3000 (.run (wT fn)) [] (args++List.replicate (fn.ntmps-args.length) (.val undef)) (H2 H0) ((N9 m++os).reverseAux []) [] keep [] false=some (res,H1,ob.reverseAux []):=by kernel_rfl):uH prog f H0 args res H1 0:=OL.toFin xW mixed q m [] keep [] false k h (Nat.le_refl _)
theorem tG(q:Qf f fn)(m:Nat)(rs:List (Option Nat×Nat×Nat))(keep ks:List Nat)(own:Bool)(k:OL prog os ob)(h:dA prog sO H0.length fn 3000 (.run (wT fn)) [] (args++List.replicate (fn.ntmps-args.length) (.val undef)) (H2 H0) ((N9 m++os).reverseAux []) rs keep ks own=some (res,H1,ob.reverseAux []):=by kernel_rfl)(hn:nst≤ks.length:=by decide):uH prog f H0 args res H1 nst:=OL.toFin xW mixed q m rs keep ks own k h hn
theorem tH(q:Qf f fn)(m:Nat)(rs:List (Option Nat×Nat×Nat))(keep ks live:List Nat)(k:OL prog os ob){c:Code}{fs':List Fr}{E:(Nat->Value)->List AV}{S:yT}(hk:∀j,Dl prog H0.length c (E j) S (vL prog H0.length (S1 prog H0.length fn res H1 nst) fs'))(h:∀j,gU prog sO H0.length 3000 (.run (wT fn)) [] (args++List.replicate (fn.ntmps-args.length) (.val undef)) (H2 H0) ((N9 m++os).reverseAux []) rs keep ks live j=some (c,fs',E j,S,ob.reverseAux []):=by intro j;kernel_rfl):uH prog f H0 args res H1 nst:=OL.toHead xW mixed q m rs keep ks live k hk h
variable {na:Nb} {Q:AX->List AV->yT->Prop} {c c':Code} {fs fs':List Fr} {env:List AV} {s S:yT}
theorem lH(m:Nat)(rs:List (Option Nat×Nat×Nat))(keep ks live:List Nat)(k:OL prog os ob){E:(Nat->Value)->List AV}(hk:∀j,Dl prog na c' (E j) S (vL prog na Q fs'))(h:∀j,gU prog sO na.n 3000 (.run c) (.loop c::fs) env s ((N9 m++os).reverseAux []) rs keep ks live j=some (c',fs',E j,S,ob.reverseAux []):=by intro j;kernel_rfl):Dl prog na c env s (vL prog na Q fs):=OL.lHead xW mixed m rs keep ks live k hk h
theorem lF(m:Nat)(keep:List Nat)(k:OL prog os ob)(h:dA prog sO na.n fn 3000 (.run c) (.loop c::fs) env s ((N9 m++os).reverseAux []) [] keep [] false=some (res,H1,ob.reverseAux []):=by kernel_rfl):Dl prog na c env s (vL prog na (S1 prog na fn res H1 0) fs):=OL.lFin xW mixed m [] keep [] false k h (Nat.le_refl _)
theorem lG(m:Nat)(rs:List (Option Nat×Nat×Nat))(keep ks:List Nat)(own:Bool)(k:OL prog os ob)(h:dA prog sO na.n fn 3000 (.run c) (.loop c::fs) env s ((N9 m++os).reverseAux []) rs keep ks own=some (res,H1,ob.reverseAux []):=by kernel_rfl)(hn:nst≤ks.length:=by decide):Dl prog na c env s (vL prog na (S1 prog na fn res H1 nst) fs):=OL.lFin xW mixed m rs keep ks own k h hn
end
theorem oY:prog.info? 31=some Tryz.t31:=by kernel_rfl
theorem dP{l m r:List Tm}(h:xQ 40 l m=some r)(hm:m.length=0):Ob.ok prog (.app 24 24 (flat zD l) (flat zD m) (flat zD r) l.length m.length r.length 3 true):=o6 vV Tryz.underlying24 oY rfl rfl rfl (by decide) rfl (by decide) h hm
theorem m5:prog.info? 3=some Tryz.t3:=by kernel_rfl
theorem zGB{l m r:List Int}(h:xQ 8 l m=some r)(hm:m.length=0):Ob.ok prog (.app 71 71 (flat yH l) (flat yH m) (flat yH r) l.length m.length r.length 1 true):=o6 kX Tryz.underlying71 m5 rfl rfl rfl (by decide) rfl (by decide) h hm
theorem zVR{n:Nat}(h:n=0):Ob.ok prog (.same 24 24 n):=zGa Tryz.underlying24 oY h
theorem zVS{n:Nat}(h:n=0):Ob.ok prog (.same 71 71 n):=zGa Tryz.underlying71 m5 h
theorem zVT{l m r:List Tm}(h:xQ 40 l m=some r)(hm:m.length≠0):Ob.ok prog (.mk (aQ prog 24 24 (some 3) (flat zD l) l.length none (flat zD m) m.length) (flat zD r) r.length):=zCB vV Tryz.underlying24 oY rfl rfl rfl (by decide) rfl (by decide) h hm
theorem zSZ{l l' m r:List Tm}{n:Nat}(hf:gfz n l=some l')(h:xQ 40 l' m=some r)(hm:m.length≠0):Ob.ok prog (.mk (aQ prog 24 24 (some 3) (flat zD l) n none (flat zD m) m.length) (flat zD r) r.length):=zJy vV Tryz.underlying24 oY rfl rfl rfl (by decide) rfl (by decide) hf h hm
theorem zRW:prog.info? 9=some Tryz.t9:=by kernel_rfl
theorem zTz{l m r:List ByteArray}(h:xQ 16 l m=some r)(hm:m.length≠0):Ob.ok prog (.app 136 136 (flat H5 l) (flat H5 m) (flat H5 r) l.length m.length r.length 1 false):=oH zEK Tryz.underlying136 zRW rfl rfl rfl (by decide) rfl (by decide) h hm
theorem zGC:prog.info? 172=some Tryz.t172:=by kernel_rfl
theorem zTy{l m r:List uT}(h:xQ 56 l m=some r)(hm:m.length≠0):Ob.ok prog (.app 139 139 (flat aU l) (flat aU m) (flat aU r) l.length m.length r.length 3 false):=oH zEM Tryz.underlying139 zGC rfl rfl rfl (by decide) rfl (by decide) h hm
theorem zLn:prog.info? 75=some Tryz.t75:=by kernel_rfl
theorem zVU{l m r:List zU}(h:xQ 192 l m=some r)(hm:m.length≠0):Ob.ok prog (.app 22 22 (flat yZ l) (flat yZ m) (flat yZ r) l.length m.length r.length 15 false):=oH zEL Tryz.underlying22 zLn rfl rfl rfl (by decide) rfl (by decide) h hm
theorem sE{l m r:List Tm}(h:xQ 40 l m=some r)(hm:m.length≠0):Ob.ok prog (.app 24 24 (flat zD l) (flat zD m) (flat zD r) l.length m.length r.length 3 false):=oH vV Tryz.underlying24 oY rfl rfl rfl (by decide) rfl (by decide) h hm
theorem zTx:prog.info? 53=some Tryz.t53:=by kernel_rfl
theorem zRX{l m r:List wB}(h:xQ 72 l m=some r)(hm:m.length≠0):Ob.ok prog (.app 25 25 (flat tB l) (flat tB m) (flat tB r) l.length m.length r.length 5 false):=oH fA Tryz.underlying25 zTx rfl rfl rfl (by decide) rfl (by decide) h hm
theorem zTw:prog.info? 55=some Tryz.t55:=by kernel_rfl
theorem zRY{l m r:List xE}(h:xQ 88 l m=some r)(hm:m.length≠0):Ob.ok prog (.app 51 51 (flat tK l) (flat tK m) (flat tK r) l.length m.length r.length 7 false):=oH L5 Tryz.underlying51 zTw rfl rfl rfl (by decide) rfl (by decide) h hm
theorem kB{l m r:List Int}(h:xQ 8 l m=some r)(hm:m.length≠0):Ob.ok prog (.app 71 71 (flat yH l) (flat yH m) (flat yH r) l.length m.length r.length 1 false):=oH kX Tryz.underlying71 m5 rfl rfl rfl (by decide) rfl (by decide) h hm
theorem zRZ{m r:List Tm}(h:xQ 40 ([]:List Tm) m=some r)(hm:m.length≠0):Ob.ok prog (.mk (aQ prog 24 24 (none) [] 0 none (flat zD m) m.length) (flat zD r) r.length):=zCA vV Tryz.underlying24 oY rfl rfl rfl (by decide) rfl (by decide) h hm
theorem zVV{m r:List Int}(h:xQ 8 ([]:List Int) m=some r)(hm:m.length≠0):Ob.ok prog (.mk (aQ prog 71 71 (none) [] 0 none (flat yH m) m.length) (flat yH r) r.length):=zCA kX Tryz.underlying71 m5 rfl rfl rfl (by decide) rfl (by decide) h hm
theorem zAM:prog.info? 141=some Tryz.t141:=by kernel_rfl
theorem zVW{l:List sZ}{i:Int}{o:qA}{x:sZ}(h:zR l i=some x):wH prog 109 (.sl (flat oE l) l.length o) (ai i)=some (.ip (oE x++flat oE (l.drop (i.toNat+1)))):=by
 have:=L2 zEN (k:=.i64) Tryz.underlying109 zAM rfl h (o:=o)
 exact this
theorem zVX{l:List ByteArray}{i:Int}{o:qA}{x:ByteArray}(h:zR l i=some x):wH prog 136 (.sl (flat H5 l) l.length o) (ai i)=some (.ip (H5 x++flat H5 (l.drop (i.toNat+1)))):=by
 have:=L2 zEK (k:=.i64) Tryz.underlying136 zRW rfl h (o:=o)
 exact this
theorem zVY{l:List uT}{i:Int}{o:qA}{x:uT}(h:zR l i=some x):wH prog 139 (.sl (flat aU l) l.length o) (ai i)=some (.ip (aU x++flat aU (l.drop (i.toNat+1)))):=by
 have:=L2 zEM (k:=.i64) Tryz.underlying139 zGC rfl h (o:=o)
 exact this
theorem wM{l:List zU}{i:Int}{o:qA}{x:zU}(h:zR l i=some x):wH prog 22 (.sl (flat yZ l) l.length o) (ai i)=some (.ip (yZ x++flat yZ (l.drop (i.toNat+1)))):=by
 have:=L2 zEL (k:=.i64) Tryz.underlying22 zLn rfl h (o:=o)
 exact this
theorem zTv:prog.info? 50=some Tryz.t50:=by kernel_rfl
theorem zJv{l:List zJ}{i:Int}{o:qA}{x:zJ}(h:zR l i=some x):wH prog 23 (.sl (flat zY l) l.length o) (ai i)=some (.ip (zY x++flat zY (l.drop (i.toNat+1)))):=by
 have:=L2 qN (k:=.i64) Tryz.underlying23 zTv rfl h (o:=o)
 exact this
theorem wN{l:List Tm}{i:Int}{o:qA}{x:Tm}(h:zR l i=some x):wH prog 24 (.sl (flat zD l) l.length o) (ai i)=some (.ip (gW x++flat zD (l.drop (i.toNat+1)))):=by
 have:=L2 vV (k:=.i64) Tryz.underlying24 oY rfl h (o:=o)
 rw[xM]at this
 exact this
theorem zTu:prog.info? 59=some Tryz.t59:=by kernel_rfl
theorem zAN{l:List zF}{i:Int}{o:qA}{x:zF}(h:zR l i=some x):wH prog 48 (.sl (flat zP l) l.length o) (ai i)=some (.ip (mU x++flat zP (l.drop (i.toNat+1)))):=by
 have:=L2 rR (k:=.i64) Tryz.underlying48 zTu rfl h (o:=o)
 rw[sK]at this
 exact this
theorem I0{l:List Int}{i:Int}{o:qA}{x:Int}(h:zR l i=some x):wH prog 71 (.sl (flat yH l) l.length o) (ai i)=some (.ip (yH x++flat yH (l.drop (i.toNat+1)))):=by
 have:=L2 kX (k:=.i64) Tryz.underlying71 m5 rfl h (o:=o)
 exact this
theorem zCD{l:List Int}{i x:Int}(h:zR l i=some x)(hl:l.length=9):kP prog 184 (.agg (flat yH l)) (ai i)=some (ai x):=zLu (k:=.i64) Tryz.underlying184 (q:=(false,1)) (by kernel_rfl) rfl hl h
theorem zTt{b n k c z:Nat}{i:Int}(h:A0 n i=some k):wH prog 109 (.ms b 0 n c z) (ai i)=some (.mp b (k*3)):=zLp Tryz.underlying109 zAM rfl h
theorem fB{b n k c z:Nat}{i:Int}(h:A0 n i=some k):wH prog 24 (.ms b 0 n c z) (ai i)=some (.mp b (k*3)):=zLp Tryz.underlying24 oY rfl h
theorem zLm{s:ByteArray}{i x:Int}(h:T5 s i=some x):kP prog 9 (at' s) (ai i)=some (.val (.int .u8 x)):=zLq Tryz.underlying9 h
theorem zSz(m:List (ByteArray×Int))(k:ByteArray):Ob.ok prog (.lk 166 (zAK m) (at' k) false (ai (zCf m k))):=zVL Tryz.underlying166 Tryz.underlying9 m5 rfl m k
theorem zLl{n:Int}{l:List sZ}(h:gmk 72 (default:sZ) n=some l):Ob.ok prog (.mk (nH prog 109 (ai n) (ai n)) (flat oE l) l.length):=zVP Tryz.underlying109 zAM rfl rfl rfl (by decide) rfl (by decide) (by rfl) h
theorem zVZ(m:List (ByteArray×Int))(k:ByteArray)(v:Int):Ob.ok prog (.mu 166 (zAK m) (at' k) (ai v) (zAK (T4 m k v))):=zVM Tryz.underlying166 Tryz.underlying9 m k v
theorem rK{l r:List Tm}{a:Int}(h:kY l a l.length=some r):pK prog 24 (.sl (flat zD l) l.length .no) (some (ai a)) none none=some (.sl (flat zD r) r.length .no):=zAI vV Tryz.underlying24 oY rfl h
theorem mD{l r:List Tm}{b:Int}(h:kY l 0 b=some r):pK prog 24 (.sl (flat zD l) l.length .no) none (some (ai b)) none=some (.sl (flat zD r) r.length .no):=zEO vV Tryz.underlying24 oY rfl h
theorem zGD{l r:List Tm}{b:Int}{o:qA}(h:kY l 0 b=some r):∃a0,pK prog 24 (.sl (flat zD l) l.length o) none (some (ai b)) none=some a0∧a0.frz = .sl (flat zD r) r.length .no:=zCk vV Tryz.underlying24 oY rfl h
def ptG:Nat->Nat->Func->Code
 |0,_,f=>wT f
 |k+1,n,f=>if n=0 then wT f else if n % 4=1 then aS (ptG k (n / 4) f)else if n % 4=2 then sD (ptG k (n / 4) f)else yO (ptG k (n / 4) f)
abbrev pt:=ptG 99
abbrev Oz:=OL prog
abbrev dL:=Dl prog
abbrev fQ:=vL prog
abbrev nQ:=S1 prog
abbrev qB (q0:List zU) (m:Nat) (q3 q4:List Int):yF:=.cells [zO yZ q0 .no,.mp m 0,zO yH q3 .no,zO yH q4 .no]
abbrev qR (q1:List zU) (q2:List sZ):yF:=.cells [zO yZ q1 .no,zO oE q2 .no]
theorem A7{os:List iP}{ob:List Ob}(q0 q1:List zU)(q2:List sZ)(q3 q4:List Int)(k:Oz os ob):Oz os (.data (flat oE q2) :: .data (flat yZ q1) :: .data (flat yH q4) :: .data (flat yH q3) :: .data (flat yZ q0)::ob):=oD (dC q2)<|oD (dE q1)<|oD (dI q4)<|oD (dI q3)<|oD (dE q0) k
theorem rF{os:List iP}{ob:List Ob}(M:wF)(k:Oz os ob):Oz os (.data (flat oE M.parts) :: .data (flat yZ M.rl) :: .data (flat yH M.own) :: .data (flat yH M.args) :: .data (flat yZ M.l)::ob):=A7 M.l M.rl M.parts M.args M.own k
theorem eH{n m:Nat}{q0 q1:List zU}{q2:List sZ}{q3 q4:List Int}{l:List yF}(h:m<n)(k:∀X∈l,X.arg (fun i=>i<n)):∀X∈qB q0 m q3 q4::qR q1 q2::l,X.arg (fun i=>i<n):=zC ⟨⟨tv,dE _⟩,h,⟨tv,dI _⟩,⟨tv,dI _⟩,tv⟩ (zC ⟨⟨tv,dE _⟩,⟨tv,dC _⟩,tv⟩ k)
theorem iY{n m:Nat}{q0 q1:List zU}{q2:List sZ}{q3 q4:List Int}{l:List yF}(h:m<n)(k:∀X∈l,X.fine (fun i=>i<n)):∀X∈qB q0 m q3 q4::qR q1 q2::l,X.fine (fun i=>i<n):=zC ⟨dE _,h,dI _,dI _,tv⟩ (zC ⟨dE _,dC _,tv⟩ k)
abbrev zQ:=List Tm
abbrev yV:=List Int
abbrev yU:=List zU
abbrev tW:=List sZ
end Go.Proofs.YtbpkpdnneffccaaGreat
namespace Go.Ab
open Go
def zG{α:Type}(f:Nat->Option α)(r:α):Prop:=∃n,∀q,n≤q->f q=some r
section
variable {α β:Type} {f:Nat->Option α} {r a:α} {b:β}
theorem zG.mk(h:∀q,f q=some r):zG f r:=⟨0,fun q _=>h q⟩
theorem zG.ret{r:α}:zG (fun _=>some r) r:=⟨0,fun _ _=>rfl⟩
theorem zG.succ(h:zG (fun q=>f (q+1)) r):zG f r:=by
 obtain⟨n,h⟩:=h
 refine⟨n+1,fun q hq=>?_⟩
 obtain⟨k,rfl⟩:∃k,q=k+1:=⟨q-1,by omega⟩
 exact h k (by omega)
theorem zG.bind{k:Nat->α->Option β}(h:zG f a)(g:zG (fun q=>k q a) b):zG (fun q=>f q>>=k q) b:=by
 obtain⟨n,h⟩:=h;obtain⟨m,g⟩:=g
 refine⟨max n m,fun q hq=>?_⟩
 dsimp only
 rw[h q (by omega)]
 exact g q (by omega)
theorem zG.pure{x:Option α}{k:Nat->α->Option β}(h:x=some a)(g:zG (fun q=>k q a) b):zG (fun q=>x>>=k q) b:=by
 subst h;exact g
theorem zG.ifT{c:Bool}{g:Nat->Option α}(h:c=true)(k:zG f r):zG (fun q=>if c=true then f q else g q) r:=by
 simpa[h]using k
theorem zG.ifF{c:Bool}{g:Nat->Option α}(h:c=false)(k:zG g r):zG (fun q=>if c=true then f q else g q) r:=by
 simpa[h]using k
theorem zG.iff{c:Bool}{g:Nat->Option α}(h:c=true->zG f r)(k:c=false->zG g r):zG (fun q=>if c=true then f q else g q) r:=by
 cases c
 ·simpa using k rfl
 ·simpa using h rfl
theorem zG.det(h:zG f r)(k:zG f a):r=a:=by
 obtain⟨n,h⟩:=h;obtain⟨m,k⟩:=k
 have:=h (max n m) (by omega)
 rw[k _ (by omega)]at this
 exact(Option.some.inj this).symm
theorem zG.at(h:zG f r):∃q,f q=some r:=by obtain⟨n,h⟩:=h;exact⟨n,h n (Nat.le_refl _)⟩
theorem zG.eq{s:α}(h:zG f r)(e:r=s):zG f s:=e▸h
end
def zM{α:Type}(f:Nat->Option α)(P:α->Prop):Prop:=∃r,zG f r∧P r
section
variable {α β:Type} {f:Nat->Option α} {P:α->Prop} {Q:β->Prop}
theorem zG.tot{r:α}(h:zG f r)(k:P r):zM f P:=⟨r,h,k⟩
theorem zM.ret{r:α}(k:P r):zM (fun _=>some r) P:=⟨r,zG.ret,k⟩
theorem zM.succ(h:zM (fun q=>f (q+1)) P):zM f P:=by obtain⟨r,h,k⟩:=h;exact⟨r,h.succ,k⟩
theorem zM.bind{k:Nat->α->Option β}(h:zM f P)(g:∀a,P a->zM (fun q=>k q a) Q):zM (fun q=>f q>>=k q) Q:=by
 obtain⟨a,h,p⟩:=h;obtain⟨b,h2,k⟩:=g a p
 exact⟨b,h.bind h2,k⟩
theorem zM.pure{x:Option α}{a:α}{k:Nat->α->Option β}(h:x=some a)(g:zM (fun q=>k q a) Q):zM (fun q=>x>>=k q) Q:=by
 subst h;exact g
theorem zM.ite{c:Bool}{g:Nat->Option α}(h:c=true->zM f P)(k:c=false->zM g P):zM (fun q=>if c=true then f q else g q) P:=by
 cases c
 ·simpa using k rfl
 ·simpa using h rfl
theorem zM.mono{P':α->Prop}(h:zM f P)(k:∀r,P r->P' r):zM f P':=by obtain⟨r,h,p⟩:=h;exact⟨r,h,k r p⟩
end
theorem yM{x:Int}(h0:-9223372036854775808≤x)(h1:x≤9223372036854775807):xL x=x:=by
 show IntKind.i64.wrap x=x
 exact IntWalk.i64_in x ⟨h0,h1⟩
theorem yE(v:Nat)(h:v<9223372036854775807):xL ((v:Int)+1)=((v+1:Nat):Int):=by
 rw[yM (by omega) (by omega)];simp
section
variable {α:Type} {l:List α} {v:Nat} {x:α} {r:List α}
theorem yY(h:l.drop v=x::r):v<l.length:=by
 rcases Nat.lt_or_ge v l.length with h1|h1
 ·exact h1
 ·rw[List.drop_eq_nil_of_le h1]at h;cases h
theorem yK(h:l.drop v=x::r):decide ((v:Int)<(l.length:Int))=true:=by
 have:=yY h;simp;exact this
theorem drop_nil(h:l.drop v=[]):decide ((v:Int)<(l.length:Int))=false:=by
 have:l.length≤v:=List.drop_eq_nil_iff.1 h
 simp;exact this
theorem yD(h:l.drop v=x::r):zR l (v:Int)=some x:=by
 have h1:=yY h
 have:l[v]? = some x:=by
  have:=congrArg (fun z=>z[0]?) h
  simpa using this
 unfold zR
 rw[if_pos (by omega)];simpa using this
theorem zZ(h:l.drop v=x::r):l.drop (v+1)=r:=by
 have:=congrArg List.tail h
 simpa using this
end
theorem xB{α:Type}{B:Nat}{l m:List α}(h:(l.length+m.length)*B≤140737488355328):xQ B l m=some (l++m):=by unfold xQ;rw[if_pos h]
mutual
def Tm.nodes:Tm->Nat
 | .mk _ _ l=>1+yN l
def yN:List Tm->Nat
 | []=>0
 |t::l=>t.nodes+yN l
end
mutual
def Tm.high:Tm->Nat
 | .mk _ _ l=>1+pI l
def pI:List Tm->Nat
 | []=>0
 |t::l=>max t.high (pI l)
end
mutual
def Tm.Ok:Tm->Prop
 | .mk _ _ l=>l.length<9223372036854775808∧mN l
def mN:List Tm->Prop
 | []=>True
 |t::l=>t.Ok∧mN l
end
mutual
def Z1:Tm->Int->Int
 | .mk _ _ l,h=>szL l (h+1)
def szL:List Tm->Int->Int
 | [],h=>h
 |t::l,h=>if h>8192 then h else szL l (Z1 t h)
end
mutual
theorem zCE:∀(t:Tm) (h:Int),0≤h->h≤8192->h+1≤Z1 t h∧Z1 t h≤8193
 | .mk _ _ l,h,h0,h1=>by
  rw[Z1]
  exact zSy l (h+1) (by omega) (by omega)
theorem zSy:∀(l:List Tm) (h:Int),0≤h->h≤8193->h≤szL l h∧szL l h≤8193
 | [],h,h0,h1=>by rw[szL];omega
 |t::l,h,h0,h1=>by
  rw[szL]
  split
  ·omega
  ·have:=zCE t h h0 (by omega)
   have:=zSy l (Z1 t h) (by omega) (by omega)
   omega
end
theorem uS(t:Tm):1≤t.nodes:=by cases t;rw[Tm.nodes];omega
mutual
theorem zLk:∀(t:Tm) (h:Int),0≤h->h≤8192->(h+t.nodes≤8192->Z1 t h=h+t.nodes)∧(8192<h+t.nodes->Z1 t h=8193)
 | .mk _ _ l,h,h0,h1=>by
  rw[Z1,Tm.nodes]
  have:=zLj l (h+1) (by omega) (by omega)
  constructor
  ·intro h2;rw[this.1 (by omega)];omega
  ·intro h2;exact this.2 (by omega)
theorem zLj:∀(l:List Tm) (h:Int),0≤h->h≤8193->(h+yN l≤8192->szL l h=h+yN l)∧(8192<h+yN l->szL l h=8193)
 | [],h,h0,h1=>by rw[szL,yN];omega
 |t::l,h,h0,h1=>by
  rw[szL,yN]
  have hp:=uS t
  split
  ·omega
  ·have ht:=zLk t h h0 (by omega)
   have hb:=zCE t h h0 (by omega)
   have hl:=zLj l (Z1 t h) (by omega) (by omega)
   constructor
   ·intro h2
    have e:=ht.1 (by omega)
    rw[e]at hl ⊢
    rw[hl.1 (by omega)];omega
   ·intro h2
    by_cases h3:h+t.nodes≤8192
    ·have e:=ht.1 h3
     rw[e]at hl ⊢
     exact hl.2 (by omega)
    ·exact hl.2 (by rw[ht.2 (by omega)];omega)
end
mutual
def dpT:Tm->Int->Int
 | .mk _ _ l,a=>if a>128 then a else dpL l a a
def dpL:List Tm->Int->Int->Int
 | [],_,m=>m
 |t::l,a,m=>dpL l a (kW m (dpT t (a+1)))
end
mutual
theorem zSx:∀(t:Tm) (a:Int),0≤a->a≤129->a≤dpT t a∧dpT t a≤129
 | .mk _ _ l,a,h0,h1=>by
  rw[dpT]
  split
  ·omega
  ·exact zSw l a a h0 (by omega) (by omega) (by omega)
theorem zSw:∀(l:List Tm) (a m:Int),0≤a->a≤128->a≤m->m≤129->m≤dpL l a m∧dpL l a m≤129
 | [],a,m,h0,h1,h2,h3=>by rw[dpL];omega
 |t::l,a,m,h0,h1,h2,h3=>by
  rw[dpL]
  have:=zSx t (a+1) (by omega) (by omega)
  have:=zSw l a (kW m (dpT t (a+1))) h0 h1 (by unfold kW;split<;>omega) (by unfold kW;split<;>omega)
  unfold kW at this ⊢
  split at this<;>split<;>omega
end
mutual
theorem zLi:∀(t:Tm) (a:Int),0≤a->a≤129->(a+t.high≤129->dpT t a=a+t.high-1)∧(129<a+t.high->dpT t a=129)
 | .mk _ _ l,a,h0,h1=>by
  rw[dpT,Tm.high]
  split
  ·omega
  ·have:=zLh l a a h0 (by omega) (by omega) (by omega)
   constructor
   ·intro h2;rw[this.1 (by omega) (by omega)];omega
   ·intro h2;exact this.2 (.inr (by omega))
theorem zLh:∀(l:List Tm) (a m:Int),0≤a->a≤128->a≤m->m≤129->(m≤128->a+pI l≤128->dpL l a m=max m (a+pI l))∧((m=129∨128<a+pI l)->dpL l a m=129)
 | [],a,m,h0,h1,h2,h3=>by rw[dpL,pI];omega
 |t::l,a,m,h0,h1,h2,h3=>by
  rw[dpL,pI]
  have ht:=zLi t (a+1) (by omega) (by omega)
  have hb:=zSx t (a+1) (by omega) (by omega)
  have hm:a≤kW m (dpT t (a+1))∧kW m (dpT t (a+1))≤129:=by unfold kW;split<;>omega
  have hl:=zLh l a (kW m (dpT t (a+1))) h0 h1 hm.1 hm.2
  have hh:1≤t.high:=by cases t;rw[Tm.high];omega
  constructor
  ·intro h4 h5
   have e:=ht.1 (by omega)
   rw[e]at hl ⊢
   have hi:kW m (a+1+t.high-1)=max m (a+t.high):=by unfold kW;split<;>omega
   rw[hi]at hl ⊢
   rw[hl.1 (by omega) (by omega)];omega
  ·intro h4
   refine hl.2 ?_
   rcases h4 with h4|h4
   ·exact .inl (by unfold kW;split<;>omega)
   ·by_cases h5:128<a+pI l
    ·exact .inr h5
    ·refine .inl ?_
     have e:dpT t (a+1)=129:=by
      by_cases h6:a+1+t.high≤129
      ·omega
      ·exact ht.2 (by omega)
     rw[e];unfold kW;split<;>omega
end
def L6(t:Tm):Bool:=
  decide (1≤t.k)&&decide (t.k≤8)&&decide (0≤t.n) &&
  (if t.k=3∨t.k=4∨t.k=5 then decide (t.sub.length=2)&&decide (t.n≤0)
   else if t.k=7 then decide (t.sub.length=1)&&decide (t.n≤1048576)&&(t.sub.head?.any fun x=>x.k==2)
   else decide (t.sub.length=0)&&(if t.k=2 then decide (t.n≤7)else decide (t.n≤1048576)))
theorem wQ{t:Tm}(h:L6 t=true):1≤t.k∧t.k≤8∧0≤t.n∧t.n≤1048576∧t.sub.length≤2 ∧
  (t.k=3∨t.k=4∨t.k=5->t.sub.length=2∧t.n≤0)∧(t.k=7->∃x,t.sub=[x]∧x.k=2)∧(t.k=1∨t.k=2∨t.k=6∨t.k=8->t.sub=[])∧(t.k=2->t.n≤7):=by
 unfold L6 at h
 revert h
 generalize t.k=k
 generalize t.n=n
 generalize t.sub=l
 intro h
 simp only[Bool.and_eq_true,decide_eq_true_eq]at h
 obtain⟨⟨⟨h1,h2⟩,h3⟩,h4⟩:=h
 split at h4
 ·simp only[Bool.and_eq_true,decide_eq_true_eq]at h4
  refine⟨h1,h2,h3,by omega,by omega,fun _=>h4,by omega,by omega,by omega⟩
 ·split at h4
  ·simp only[Bool.and_eq_true,decide_eq_true_eq]at h4
   obtain⟨⟨h5,h6⟩,h7⟩:=h4
   obtain⟨x,rfl⟩:∃x,l=[x]:=by
    rcases l with _|⟨x,_|⟨y,l⟩⟩<;>simp at h5
    exact⟨x,rfl⟩
   refine⟨h1,h2,h3,h6,by simp,by omega,fun _=>⟨x,rfl,by simpa using h7⟩,by omega,by omega⟩
  ·simp only[Bool.and_eq_true,decide_eq_true_eq]at h4
   have hl:l=[]:=List.length_eq_zero_iff.1 h4.1
   refine⟨h1,h2,h3,?_,by omega,by omega,by omega,fun _=>hl,fun h8=>?_⟩
   ·have:=h4.2
    split at this<;>(simp at this;omega)
   ·have:=h4.2
    rw[if_pos h8]at this
    simpa using this
mutual
def xG:Tm->Bool
 | .mk k n l=>L6 (.mk k n l)&&qF l
def qF:List Tm->Bool
 | []=>true
 |t::l=>xG t&&qF l
end
def zH(t:Tm):Bool:=decide (t.nodes≤8192)&&decide (t.high≤128)&&xG t
def N1(k:Int)(i:Nat):Int:=if i=1∧(k=3∨k=4)then 1 else 0
mutual
def cP:Tm->Int->Int
 | .mk k n l,b=>if k=1 then max 0 (n+1-b)else dB l k 0 b
def dB:List Tm->Int->Nat->Int->Int
 | [],_,_,_=>0
 |t::l,k,i,b=>max (cP t (b+N1 k i)) (dB l k (i+1) b)
end
mutual
def lK:Tm->Int->Int->List Int
 | .mk k n l,a,b=>(if k=a∨k=b then [n]else [])++T7 l a b
def T7:List Tm->Int->Int->List Int
 | [],_,_=>[]
 |t::l,a,b=>lK t a b++T7 l a b
end
open Go.RowKit
def L7(W:World):Gh:=⟨fun _=>none,fun _=>none,fun b o=>∃v,W.cell? ⟨b,o,none⟩=some v,W,fun b=>b<W.heap.size,fun _=>False⟩
theorem zTs(W:World):yA (L7 W) (yJ (wY 0) (H2 [])) W:=by
 refine⟨fun _=>⟨fun _=>.inr rfl,fun _=>⟨rfl,id⟩,fun e=>e.elim⟩,⟨0,fun _ _=>rfl⟩,fun _ _ _ h=>?_,fun _ _ _ h=>?_,fun _ _ h=>⟨h,fun i e=>by cases e⟩,fun _ _=>rfl,fun _ h=>?_,fun _ _ _ _ _ _ _ h=>?_,wZ.refl _ _,fun _ h=>h⟩
 ·cases h
 ·cases h
 ·cases h
 ·cases h
theorem zPK(W:World):kU (0:Nat) (L7 W):=⟨fun _ _=>⟨rfl,id⟩,fun _=>rfl,fun _ _ ⟨_,h⟩=>World.block_lt_of_cell? W _ h,trivial⟩
theorem T8{W:World}:∀(xs:List AV) (cs:List Value) (b off:Nat),VL (L7 W) W xs cs->(∀i,i<xs.length->W.cell? ⟨b,off+i,none⟩=cs[i]?)->VC (L7 W) W xs b off
 | [],_,_,_,_,_=>by simp only[VC]
 |a::xs,c::cs,b,off,hv,h=>by
  simp only[VL]at hv
  have h0:=h 0 (by simp)
  simp only[Nat.add_zero,List.getElem?_cons_zero]at h0
  simp only[VC]
  refine⟨⟨c,h0⟩,⟨c,h0,hv.1⟩,T8 xs cs b (off+1) hv.2 fun i hi=>?_⟩
  have:=h (i+1) (by simp;omega)
  simpa[Nat.add_assoc,Nat.add_comm 1 i]using this
 |_::_,[],_,_,hv,_=>by simp only[VL]at hv
theorem zCF{W:World}{b:Nat}:∀(n off:Nat),(∀i,i<n->∃(cs:List Value) (t:Tm),(∀j,j<3->W.cell? ⟨b,off+i*3+j,none⟩=cs[j]?)∧VL (L7 W) W (gW t) cs∧t.Ok) ->
  ∃l:List Tm,l.length=n∧VC (L7 W) W (flat zD l) b off∧mN l
 |0,off,_=>⟨[],rfl,by simp[flat,VC],by rw[mN];trivial⟩
 |n+1,off,h=>by
  obtain⟨cs,t,hc,ht,hto⟩:=h 0 (by omega)
  obtain⟨l,hl,hV,hlo⟩:=zCF (W:=W) (b:=b) n (off+3) fun i hi=>by
   obtain⟨cs,t,hc,ht,hto⟩:=h (i+1) (by omega)
   refine⟨cs,t,fun j hj=>?_,ht,hto⟩
   rw[←hc j hj]
   congr 2
   omega
  refine⟨t::l,by simp[hl],?_,by rw[mN];exact⟨hto,hlo⟩⟩
  have e:flat zD (t::l)=gW t++flat zD l:=by simp only[flat,List.flatMap_cons,xM]
  rw[e]
  refine VC.append _ _ _ _ (T8 _ cs _ _ ht fun i hi=>?_) (by simpa[gW]using hV)
  simpa using hc i (by simpa[gW]using hi)
end Go.Ab
namespace Go.Proofs.YtbpkpdnneffccaaGreat
open Go Go.Ab Go.RowKit Go.Proofs Go.Proofs.Tryz
theorem zGE{H:Type}{enc:TypeId×Value->H}{W:World}{n:Nat}{c2:Value}{x:DataW H×List MemPlace}
  (ih:∀m,n=m+1->∀(cs:List Value) (x:DataW H×List MemPlace),DataW.trod enc prog W 0 (fun _=>true) true m 31 cs=some x->∃t:Tm,VL (L7 W) W (gW t) cs∧t.Ok)
  (f2:DataW.trod enc prog W 0 (fun _=>true) true n 24 [c2]=some x):∃l:List Tm,V (L7 W) W (.sl (flat zD l) l.length .no) c2∧mN l∧l.length<9223372036854775808:=by
 rcases DataW.trod_slice Tryz.underlying24 f2 with⟨e2,-⟩|⟨a,len,cap,elems,rest,m,hm,e2,-,-,hle,hmx,hel,hE,hR,-⟩
 ·cases e2
  exact⟨[],by simp only[V];exact⟨0,Nat.le_refl _,.inl ⟨rfl,rfl,rfl,rfl,trivial⟩⟩,by rw[mN];trivial,by simp⟩
 ·cases e2
  have rd:∀i,i<cap->∃(cs:List Value) (t:Tm),W.cells? 0 (a.add (i*3)) 3=some cs∧VL (L7 W) W (gW t) cs∧t.Ok:=by
   intro i hi
   have got:∃y,(W.cells? 0 (a.add (i*3)) 3).bind (DataW.trod enc prog W 0 (fun _=>true) true m 31)=some y:=by
    rw[←p8]
    rcases Nat.lt_or_ge i len with hlt|hge
    ·rw[hE i hlt];exact⟨_,List.getElem?_eq_getElem (by omega)⟩
    ·obtain⟨r1,r2⟩:=hR rfl
     have:=r2 (i-len) (by omega)
     rw[show len+(i-len)=i by omega]at this
     rw[this];exact⟨_,List.getElem?_eq_getElem (by omega)⟩
   obtain⟨y,hy⟩:=got
   obtain⟨cs,h1,h2⟩:=Option.bind_eq_some_iff.1 hy
   obtain⟨t,ht⟩:=ih m hm cs y h2
   exact⟨cs,t,h1,ht⟩
  rcases Nat.eq_zero_or_pos cap with e|hpos
  ·subst e
   have:len=0:=by omega
   subst this
   exact⟨[],by simp only[V];exact⟨0,Nat.le_refl _,.inl ⟨rfl,rfl,rfl,rfl,trivial⟩⟩,by rw[mN];trivial,by simp⟩
  ·obtain⟨b,off,spot⟩:=a
   have hsp:spot=none:=by
    obtain⟨cs,t,h1,h2⟩:=rd 0 hpos
    obtain⟨_,hl,hc⟩:=World.cells?_some h1
    have g0:=hc 0 (by omega)
    obtain⟨c0,hc0⟩:∃c0,cs[0]? = some c0:=⟨_,List.getElem?_eq_getElem (by omega)⟩
    rw[hc0]at g0
    simpa[Addr.add]using World.cell?_spot g0
   subst hsp
   obtain⟨l,hl,hV,hlo⟩:=zCF (W:=W) (b:=b) len off fun i hi=>by
    obtain⟨cs,t,h1,h2⟩:=rd i (by omega)
    obtain⟨_,_,hc⟩:=World.cells?_some h1
    exact⟨cs,t,fun j hj=>by have:=hc j hj;simpa[Addr.add_lit]using this,h2⟩
   refine⟨l,?_,hlo,by have:maxLen=9223372036854775807:=rfl;omega⟩
   simp only[V]
   exact⟨cap,by omega,.inr ⟨b,off,by rw[hl],hV,trivial⟩⟩
theorem A8{H:Type}{enc:TypeId×Value->H}{W:World}:∀(fuel:Nat) (cs:List Value) (x:DataW H×List MemPlace),DataW.trod enc prog W 0 (fun _=>true) true fuel 31 cs=some x->∃t:Tm,VL (L7 W) W (gW t) cs∧t.Ok:=by
 intro fuel
 induction fuel using Nat.strongRecOn with
 |ind fuel ih=>
  intro cs x h
  obtain⟨xs,n,hn,-,hlen,hxs,hf⟩:=DataW.trod_struct Tryz.underlying31 h
  have hlen:cs.length=3:=hlen.trans p8
  obtain⟨c0,c1,c2,rfl⟩:∃c0 c1 c2,cs=[c0,c1,c2]:=by
   rcases cs with _|⟨a,_|⟨b,_|⟨c,_|⟨e,cs⟩⟩⟩⟩<;>simp only[List.length_nil,List.length_cons]at hlen<;>first|exact⟨a,b,c,rfl⟩|omega
  have c3:prog.cellsOf 3=1:=by kernel_rfl
  have c57:prog.cellsOf 24=1:=by kernel_rfl
  have f0:DataW.trod enc prog W 0 (fun _=>true) true n 3 ((List.drop 0 [c0,c1,c2]).take (prog.cellsOf 3))=xs[0]?:=hf 0 _ rfl
  have f1:DataW.trod enc prog W 0 (fun _=>true) true n 3 ((List.drop 1 [c0,c1,c2]).take (prog.cellsOf 3))=xs[1]?:=hf 1 _ rfl
  have f2:DataW.trod enc prog W 0 (fun _=>true) true n 24 ((List.drop 2 [c0,c1,c2]).take (prog.cellsOf 24))=xs[2]?:=hf 2 _ rfl
  rw[c3]at f0 f1
  rw[c57]at f2
  replace f0:DataW.trod enc prog W 0 (fun _=>true) true n 3 [c0]=xs[0]?:=f0
  replace f1:DataW.trod enc prog W 0 (fun _=>true) true n 3 [c1]=xs[1]?:=f1
  replace f2:DataW.trod enc prog W 0 (fun _=>true) true n 24 [c2]=xs[2]?:=f2
  have hsz:xs.length=3:=hxs
  obtain⟨y0,y1,y2,rfl⟩:∃y0 y1 y2,xs=[y0,y1,y2]:=by
   rcases xs with _|⟨a,_|⟨b,_|⟨c,_|⟨e,xs⟩⟩⟩⟩<;>simp only[List.length_nil,List.length_cons]at hsz<;>first|exact⟨a,b,c,rfl⟩|omega
  simp only[List.getElem?_cons_zero,List.getElem?_cons_succ]at f0 f1 f2
  obtain⟨k0,e0,-,-⟩:=DataW.trod_int Tryz.underlying3 f0
  obtain⟨k1,e1,-,-⟩:=DataW.trod_int Tryz.underlying3 f1
  cases e0;cases e1
  have key:=zGE (W:=W) (n:=n) (fun m hm cs x hx=>ih m (by omega) cs x hx) f2
  obtain⟨l,hl,ho,hlen⟩:=key
  refine⟨.mk k0 k1 l,?_,by rw[Tm.Ok];exact⟨hlen,ho⟩⟩
  simp only[gW,Tm.k,Tm.n,Tm.sub,VL]
  exact⟨by simp only[V],by simp only[V],hl,trivial⟩
theorem zTr{H:Type}{enc:TypeId×Value->H}{W:World}{v:Value}{d:DataW H}{p:List MemPlace}(hv:∃(q:Option Addr) (m c:Nat),v = .slice q m c)
  (h:DataW.Trod enc prog W 0 (fun _=>true) true 24 v d p):∃l:List Tm,V (L7 W) W (.sl (flat zD l) l.length .no) v∧mN l∧l.length<9223372036854775808:=by
 obtain⟨q,m,c,rfl⟩:=hv
 obtain⟨fuel,hf⟩:=h
 exact zGE (n:=fuel) (fun m _ cs x hx=>A8 m cs x hx) (by simpa[Value.cells]using hf)
end Go.Proofs.YtbpkpdnneffccaaGreat
namespace Go.Ab
open Go Go.RowKit
def Wt{H:Type}(P:Program)(t:TypeId)(d:DataW H):Prop:=∀w∈d.weights P t,w≤reachBytes
theorem O1{H:Type}{P:Program}:∀(ts:List TypeId) (ds:List (DataW H)) (i:Nat) (t:TypeId) (d:DataW H),ts[i]? = some t->ds[i]? = some d->∀w∈d.weights P t,w∈DataW.weightsEach P ts ds
 | [],_,i,t,d,h,_,w,_=>by simp at h
 |_::_,[],i,t,d,_,h,w,_=>by simp at h
 |t0::ts,d0::ds,0,t,d,h,k,w,hw=>by
  simp only[List.getElem?_cons_zero,Option.some.injEq]at h k
  subst h;subst k
  rw[DataW.weightsEach];exact List.mem_append_left _ hw
 |t0::ts,d0::ds,i+1,t,d,h,k,w,hw=>by
  rw[DataW.weightsEach]
  exact List.mem_append_right _ (O1 ts ds i t d (by simpa using h) (by simpa using k) w hw)
theorem zET{H:Type}{P:Program}{e:TypeId}:∀(ds:List (DataW H)) (d:DataW H),d∈ds->∀w∈d.weights P e,w∈DataW.weightsAll P e ds
 |d0::ds,d,h,w,hw=>by
  rw[DataW.weightsAll]
  rcases List.mem_cons.1 h with rfl|h
  ·exact List.mem_append_left _ hw
  ·exact List.mem_append_right _ (zET ds d h w hw)
theorem rL{H:Type}{P:Program}{t:TypeId}{fs:Array Field}(ht:P.underlying t=some (.struct fs)){parts:List (DataW H)}(h:Wt P t (.agg parts)){i:Nat}{f:Field}{d:DataW H}(hf:fs[i]? = some f)(hd:parts[i]? = some d):Wt P f.type d:=fun w hw=>by
 refine h w ?_
 rw[DataW.weights,ht]
 exact O1 _ _ i f.type d (by rw[List.getElem?_map,Array.getElem?_toList,hf];rfl) hd w hw
theorem zLg{H:Type}{P:Program}{t e:TypeId}(ht:P.underlying t=some (.slice e)){es rs:List (DataW H)}(h:Wt P t (.slice es rs)):(es.length+rs.length)*P.bytesOf e≤reachBytes∧(∀d∈es,Wt P e d)∧∀d∈rs,Wt P e d:=by
 unfold Wt at h
 rw[DataW.weights,ht]at h
 refine⟨h _ (by simp),fun d hd w hw=>h w ?_,fun d hd w hw=>h w ?_⟩
 ·exact List.mem_cons_of_mem _ (List.mem_append_left _ (zET es d hd w hw))
 ·exact List.mem_cons_of_mem _ (List.mem_append_right _ (zET rs d hd w hw))
theorem m6{α:Type}(cells:α->List AV)(c:Nat)(hcl:∀x,(cells x).length=c){W:World}{b:Nat}{Q:α->Prop}:∀(n off:Nat),(∀i,i<n->∃(cs:List Value) (x:α),(∀j,j<c->W.cell? ⟨b,off+i*c+j,none⟩=cs[j]?)∧VL (L7 W) W (cells x) cs∧Q x) ->
  ∃l:List α,l.length=n∧VC (L7 W) W (flat cells l) b off∧∀x∈l,Q x
 |0,off,_=>⟨[],rfl,by simp[flat,VC],fun _ h=>nomatch h⟩
 |n+1,off,h=>by
  obtain⟨cs,t,hc,ht,hq⟩:=h 0 (by omega)
  obtain⟨l,hl,hV,hlo⟩:=m6 cells c hcl (W:=W) (b:=b) (Q:=Q) n (off+c) fun i hi=>by
   obtain⟨cs,t,hc,ht,hto⟩:=h (i+1) (by omega)
   refine⟨cs,t,fun j hj=>?_,ht,hto⟩
   rw[←hc j hj]
   congr 2
   rw[Nat.succ_mul];omega
  refine⟨t::l,by simp[hl],?_,fun x hx=>(List.mem_cons.1 hx).elim (fun e=>e▸hq) (hlo x)⟩
  have e:flat cells (t::l)=cells t++flat cells l:=by simp only[flat,List.flatMap_cons]
  rw[e]
  refine VC.append _ _ _ _ (T8 _ cs _ _ ht fun i hi=>?_) (by rw[hcl];exact hV)
  rw[hcl]at hi
  simpa using hc i hi
theorem kC{α:Type}(cells:α->List AV)(c:Nat)(hcl:∀x,(cells x).length=c)(hpos:0<c){H:Type}{enc:TypeId×Value->H}{P:Program}{W:World}{n:Nat}{t e:TypeId}{c2:Value}{x:DataW H×List MemPlace}{Q:α->Prop}
  (ht:P.underlying t=some (.slice e)) (hc:P.cellsOf e=c)
  (ih:∀m,n=m+1->∀(cs:List Value) (x:DataW H×List MemPlace),DataW.trod enc P W 0 (fun _=>true) true m e cs=some x->Wt P e x.1->∃a:α,VL (L7 W) W (cells a) cs∧Q a)
  (f2:DataW.trod enc P W 0 (fun _=>true) true n t [c2]=some x) (hw:Wt P t x.1):∃l:List α,V (L7 W) W (.sl (flat cells l) l.length .no) c2∧(∀a∈l,Q a)∧l.length*P.bytesOf e≤reachBytes:=by
 rcases DataW.trod_slice ht f2 with⟨e2,-⟩|⟨a,len,cap,elems,rest,m,hm,e2,hx,-,hle,hmx,hel,hE,hR,-⟩
 ·cases e2
  exact⟨[],by simp only[V];exact⟨0,Nat.le_refl _,.inl ⟨rfl,rfl,rfl,rfl,trivial⟩⟩,fun _ h=>(nomatch h),by simp⟩
 ·cases e2
  rw[hx]at hw
  obtain⟨w1,w2,w3⟩:=zLg ht hw
  rw[hc]at hE hR
  have rd:∀i,i<cap->∃(cs:List Value) (t:α),W.cells? 0 (a.add (i*c)) c=some cs∧VL (L7 W) W (cells t) cs∧Q t:=by
   intro i hi
   have got:∃y,(W.cells? 0 (a.add (i*c)) c).bind (DataW.trod enc P W 0 (fun _=>true) true m e)=some y∧Wt P e y.1:=by
    rcases Nat.lt_or_ge i len with hlt|hge
    ·rw[hE i hlt];exact⟨_,List.getElem?_eq_getElem (by omega),w2 _ (List.mem_map_of_mem (List.getElem_mem _))⟩
    ·obtain⟨r1,r2⟩:=hR rfl
     have:=r2 (i-len) (by omega)
     rw[show len+(i-len)=i by omega]at this
     rw[this];exact⟨_,List.getElem?_eq_getElem (by omega),w3 _ (List.mem_map_of_mem (List.getElem_mem _))⟩
   obtain⟨y,hy,hyw⟩:=got
   obtain⟨cs,h1,h2⟩:=Option.bind_eq_some_iff.1 hy
   obtain⟨t,ht⟩:=ih m hm cs y h2 hyw
   exact⟨cs,t,h1,ht⟩
  rcases Nat.eq_zero_or_pos cap with e0|hp
  ·subst e0
   have:len=0:=by omega
   subst this
   exact⟨[],by simp only[V];exact⟨0,Nat.le_refl _,.inl ⟨rfl,rfl,rfl,rfl,trivial⟩⟩,fun _ h=>(nomatch h),by simp⟩
  ·obtain⟨b,off,spot⟩:=a
   have hsp:spot=none:=by
    obtain⟨cs,t,h1,h2⟩:=rd 0 hp
    obtain⟨_,hl,hcc⟩:=World.cells?_some h1
    have g0:=hcc 0 (by omega)
    obtain⟨c0,hc0⟩:∃c0,cs[0]? = some c0:=⟨_,List.getElem?_eq_getElem (by omega)⟩
    rw[hc0]at g0
    simpa[Addr.add]using World.cell?_spot g0
   subst hsp
   obtain⟨l,hl,hV,hlo⟩:=m6 cells c hcl (W:=W) (b:=b) (Q:=Q) len off fun i hi=>by
    obtain⟨cs,t,h1,h2⟩:=rd i (by omega)
    obtain⟨_,_,hcc⟩:=World.cells?_some h1
    exact⟨cs,t,fun j hj=>by have:=hcc j hj;simpa[Addr.add_lit]using this,h2⟩
   refine⟨l,?_,hlo,?_⟩
   ·simp only[V]
    exact⟨cap,by omega,.inr ⟨b,off,by rw[hl],hV,trivial⟩⟩
   ·rw[List.length_map,List.length_map,hel]at w1
    rw[hl]
    exact Nat.le_trans (Nat.mul_le_mul_right _ (Nat.le_add_right _ _)) w1
end Go.Ab
namespace Go.Proofs.YtbpkpdnneffccaaGreat
open Go Go.Ab Go.RowKit Go.Proofs Go.Proofs.Tryz
def RdE(e:zU):Prop:=e.type.Ok∧e.body.Ok∧e.cons.length≤17592186044416∧e.fields.length≤17592186044416
theorem zGF{H:Type}{enc:TypeId×Value->H}{W:World}{n:Nat}{c2:Value}{x:DataW H×List MemPlace}(f2:DataW.trod enc prog W 0 (fun _=>true) true n 71 [c2]=some x)(hw:Wt prog 71 x.1) :
  ∃l:List Int,V (L7 W) W (.sl (flat yH l) l.length .no) c2∧l.length≤17592186044416:=by
 obtain⟨l,h1,-,h2⟩:=kC yH 1 (fun _=>rfl) (by omega) (Q:=fun _=>True) Tryz.underlying71 (by kernel_rfl) (fun m _ cs x h _=>by
  obtain⟨k,e,-⟩:=DataW.trod_int Tryz.underlying3 h
  subst e
  exact⟨k,by simp only[yH,VL,V,and_true],trivial⟩) f2 hw
 refine⟨l,h1,?_⟩
 have:prog.bytesOf 3=8:=by kernel_rfl
 rw[this]at h2
 have:reachBytes=140737488351232:=rfl
 omega
theorem zTp{α:Type}(l:List α)(h:l.length=15):∃c0 c1 c2 c3 c4 c5 c6 c7 c8 c9 N2 w6 c12 m7 c14,l=[c0,c1,c2,c3,c4,c5,c6,c7,c8,c9,N2,w6,c12,m7,c14]:=by
 rcases l with _|⟨c0,_|⟨c1,_|⟨c2,_|⟨c3,_|⟨c4,_|⟨c5,_|⟨c6,_|⟨c7,_|⟨c8,_|⟨c9,_|⟨N2,_|⟨w6,_|⟨c12,_|⟨m7,_|⟨c14,_|⟨zz,zs⟩⟩⟩⟩⟩⟩⟩⟩⟩⟩⟩⟩⟩⟩⟩⟩<;>simp only[List.length_nil,List.length_cons]at h<;>first|exact⟨c0,c1,c2,c3,c4,c5,c6,c7,c8,c9,N2,w6,c12,m7,c14,rfl⟩|omega
theorem zTo{α:Type}(l:List α)(h:l.length=11):∃y0 y1 y2 y3 y4 y5 y6 y7 y8 y9 y10,l=[y0,y1,y2,y3,y4,y5,y6,y7,y8,y9,y10]:=by
 rcases l with _|⟨y0,_|⟨y1,_|⟨y2,_|⟨y3,_|⟨y4,_|⟨y5,_|⟨y6,_|⟨y7,_|⟨y8,_|⟨y9,_|⟨y10,_|⟨zz,zs⟩⟩⟩⟩⟩⟩⟩⟩⟩⟩⟩⟩<;>simp only[List.length_nil,List.length_cons]at h<;>first|exact⟨y0,y1,y2,y3,y4,y5,y6,y7,y8,y9,y10,rfl⟩|omega
theorem zLf{H:Type}{enc:TypeId×Value->H}{W:World}(fuel:Nat)(cs:List Value)(x:DataW H×List MemPlace)(h:DataW.trod enc prog W 0 (fun _=>true) true fuel 75 cs=some x)(hw:Wt prog 75 x.1):∃e:zU,VL (L7 W) W (yZ e) cs∧RdE e:=by
 obtain⟨xs,n,hn,hx,hlen,hxs,hf⟩:=DataW.trod_struct Tryz.underlying75 h
 rw[hx]at hw
 have c15:prog.cellsOf 75=15:=by kernel_rfl
 obtain⟨c0,c1,c2,c3,c4,c5,c6,c7,c8,c9,N2,w6,c12,m7,c14,rfl⟩:=zTp cs (hlen.trans c15)
 obtain⟨y0,y1,y2,y3,y4,y5,y6,y7,y8,y9,y10,rfl⟩:=zTo xs hxs
 have kINT:prog.cellsOf 3=1:=by kernel_rfl
 have kSTR:prog.cellsOf 9=1:=by kernel_rfl
 have kTERM:prog.cellsOf 31=3:=by kernel_rfl
 have kINTS:prog.cellsOf 71=1:=by kernel_rfl
 have f0:DataW.trod enc prog W 0 (fun _=>true) true n 3 ((List.drop 0 [c0,c1,c2,c3,c4,c5,c6,c7,c8,c9,N2,w6,c12,m7,c14]).take (prog.cellsOf 3))=some y0:=hf 0 _ rfl
 rw[kINT]at f0
 replace f0:DataW.trod enc prog W 0 (fun _=>true) true n 3 [c0]=some y0:=f0
 have f1:DataW.trod enc prog W 0 (fun _=>true) true n 9 ((List.drop 1 [c0,c1,c2,c3,c4,c5,c6,c7,c8,c9,N2,w6,c12,m7,c14]).take (prog.cellsOf 9))=some y1:=hf 1 _ rfl
 rw[kSTR]at f1
 replace f1:DataW.trod enc prog W 0 (fun _=>true) true n 9 [c1]=some y1:=f1
 have f2:DataW.trod enc prog W 0 (fun _=>true) true n 31 ((List.drop 2 [c0,c1,c2,c3,c4,c5,c6,c7,c8,c9,N2,w6,c12,m7,c14]).take (prog.cellsOf 31))=some y2:=hf 2 _ rfl
 rw[kTERM]at f2
 replace f2:DataW.trod enc prog W 0 (fun _=>true) true n 31 [c2,c3,c4]=some y2:=f2
 have f3:DataW.trod enc prog W 0 (fun _=>true) true n 31 ((List.drop 5 [c0,c1,c2,c3,c4,c5,c6,c7,c8,c9,N2,w6,c12,m7,c14]).take (prog.cellsOf 31))=some y3:=hf 3 _ rfl
 rw[kTERM]at f3
 replace f3:DataW.trod enc prog W 0 (fun _=>true) true n 31 [c5,c6,c7]=some y3:=f3
 have f4:DataW.trod enc prog W 0 (fun _=>true) true n 3 ((List.drop 8 [c0,c1,c2,c3,c4,c5,c6,c7,c8,c9,N2,w6,c12,m7,c14]).take (prog.cellsOf 3))=some y4:=hf 4 _ rfl
 rw[kINT]at f4
 replace f4:DataW.trod enc prog W 0 (fun _=>true) true n 3 [c8]=some y4:=f4
 have f5:DataW.trod enc prog W 0 (fun _=>true) true n 3 ((List.drop 9 [c0,c1,c2,c3,c4,c5,c6,c7,c8,c9,N2,w6,c12,m7,c14]).take (prog.cellsOf 3))=some y5:=hf 5 _ rfl
 rw[kINT]at f5
 replace f5:DataW.trod enc prog W 0 (fun _=>true) true n 3 [c9]=some y5:=f5
 have f6:DataW.trod enc prog W 0 (fun _=>true) true n 3 ((List.drop 10 [c0,c1,c2,c3,c4,c5,c6,c7,c8,c9,N2,w6,c12,m7,c14]).take (prog.cellsOf 3))=some y6:=hf 6 _ rfl
 rw[kINT]at f6
 replace f6:DataW.trod enc prog W 0 (fun _=>true) true n 3 [N2]=some y6:=f6
 have f7:DataW.trod enc prog W 0 (fun _=>true) true n 3 ((List.drop 11 [c0,c1,c2,c3,c4,c5,c6,c7,c8,c9,N2,w6,c12,m7,c14]).take (prog.cellsOf 3))=some y7:=hf 7 _ rfl
 rw[kINT]at f7
 replace f7:DataW.trod enc prog W 0 (fun _=>true) true n 3 [w6]=some y7:=f7
 have f8:DataW.trod enc prog W 0 (fun _=>true) true n 3 ((List.drop 12 [c0,c1,c2,c3,c4,c5,c6,c7,c8,c9,N2,w6,c12,m7,c14]).take (prog.cellsOf 3))=some y8:=hf 8 _ rfl
 rw[kINT]at f8
 replace f8:DataW.trod enc prog W 0 (fun _=>true) true n 3 [c12]=some y8:=f8
 have f9:DataW.trod enc prog W 0 (fun _=>true) true n 71 ((List.drop 13 [c0,c1,c2,c3,c4,c5,c6,c7,c8,c9,N2,w6,c12,m7,c14]).take (prog.cellsOf 71))=some y9:=hf 9 _ rfl
 rw[kINTS]at f9
 replace f9:DataW.trod enc prog W 0 (fun _=>true) true n 71 [m7]=some y9:=f9
 have f10:DataW.trod enc prog W 0 (fun _=>true) true n 71 ((List.drop 14 [c0,c1,c2,c3,c4,c5,c6,c7,c8,c9,N2,w6,c12,m7,c14]).take (prog.cellsOf 71))=some y10:=hf 10 _ rfl
 rw[kINTS]at f10
 replace f10:DataW.trod enc prog W 0 (fun _=>true) true n 71 [c14]=some y10:=f10
 obtain⟨n0,e0,-,-⟩:=DataW.trod_int Tryz.underlying3 f0
 cases e0
 obtain⟨n1,e1,-,-⟩:=DataW.trod_string Tryz.underlying9 f1
 cases e1
 obtain⟨t2,v2,o2⟩:=A8 _ _ _ f2
 obtain⟨t3,v3,o3⟩:=A8 _ _ _ f3
 obtain⟨n4,e4,-,-⟩:=DataW.trod_int Tryz.underlying3 f4
 cases e4
 obtain⟨n5,e5,-,-⟩:=DataW.trod_int Tryz.underlying3 f5
 cases e5
 obtain⟨n6,e6,-,-⟩:=DataW.trod_int Tryz.underlying3 f6
 cases e6
 obtain⟨n7,e7,-,-⟩:=DataW.trod_int Tryz.underlying3 f7
 cases e7
 obtain⟨n8,e8,-,-⟩:=DataW.trod_int Tryz.underlying3 f8
 cases e8
 obtain⟨l9,v9,o9⟩:=zGF f9 (rL Tryz.underlying75 hw (i:=9) rfl rfl)
 obtain⟨l10,v10,o10⟩:=zGF f10 (rL Tryz.underlying75 hw (i:=10) rfl rfl)
 simp only[gW,VL]at v2 v3
 refine⟨zU.mk n0 n1 t2 t3 n4 n5 n6 n7 n8 l9 l10,?_,o2,o3,o9,o10⟩
 simp only[yZ,VL]
 exact⟨by simp only[V],by simp only[V],v2.1,v2.2.1,v2.2.2.1,v3.1,v3.2.1,v3.2.2.1,by simp only[V],by simp only[V],by simp only[V],by simp only[V],by simp only[V],v9,v10,trivial⟩
theorem zPL{H:Type}{enc:TypeId×Value->H}{W:World}{v:Value}{d:DataW H}{p:List MemPlace}(hv:∃(q:Option Addr) (m c:Nat),v = .slice q m c)
  (h:DataW.Trod enc prog W 0 (fun _=>true) true 22 v d p) (hw:Wt prog 22 d):∃l:List zU,V (L7 W) W (.sl (flat yZ l) l.length .no) v∧∀e∈l,RdE e:=by
 obtain⟨q,m,c,rfl⟩:=hv
 obtain⟨fuel,hf⟩:=h
 obtain⟨l,h1,h2,-⟩:=kC yZ 15 (fun _=>rfl) (by omega) (Q:=RdE) Tryz.underlying22 (by kernel_rfl) (fun m _ cs x h hw=>zLf m cs x h hw) (n:=fuel) (by simpa[Value.cells]using hf) hw
 exact⟨l,h1,h2⟩
mutual
def zEU:Nat->Tm->Int->Option Int
 |0,_,_=>none
 |qq+1,p0,p1=>
 jD qq p0 (xL (p1+1)) 0
def jD:Nat->Tm->Int->Int->Option Int
 |0,_,_,_=>none
 |qq+1,p0,v1,v12=>
 if decide (v12<(p0.sub.length:Int))then
 zR p0.sub v12>>=fun x2=>
 if decide (v1>8192)then
 some v1
 else
 zEU qq x2 v1>>=fun r5=>
 jD qq p0 r5 (xL (v12+1))
 else
 some v1
end
abbrev zWy (p0:Tm) (p1 r:Int) (C:Cf):Prop:=C 123 [] [xF p0,ai p1] (ai r) [] 0
theorem zCG:∀qq:Nat,(∀ {p0 p1 r},zEU qq p0 p1=some r->zWy p0 p1 r Ct)∧(∀ {p0 v1 v12 r},jD qq p0 v1 v12=some r->(∀j,dL 0 (pt 4021 f123) (sp j 23 0 [(1,ai v1),(10,zO zD p0.sub .no),(11,ai (p0.sub.length:Int)),(12,ai v12)]) (⟨[],0,[],0,[]⟩) (fQ 0 (nQ 0 f123 (ai r) [] 0) [.blk 0,.seq (pt 63 f123)]))):=by
 intro qq
 induction qq with
 |zero=>
  exact⟨fun h=>nn h,fun h=>nn h⟩
 |succ qq ih=>
  obtain⟨zWx,zCH⟩:=ih
  refine⟨?_,?_⟩
  intro p0 p1 r h
  rw[zEU]at h
  exact⟨tH ⟨func123,rfl⟩ 3 [] [] [] [1,10,11,12] (oD (dT p0.sub) o0) (zCH h),⟨⟨tv,tv,⟨tv,dT _⟩,tv⟩,tv,tv⟩,zA,tv,zA⟩
  intro p0 v1 v12 r h
  rw[jD]at h
  obtain⟨h1,h⟩|⟨h1,h⟩:=zL h
  obtain⟨x2,h3,h⟩:=zB h
  have k:=oA 0 (wN (o:=.no) h3)<|oB 0 h1 o0
  obtain⟨h4,h⟩|⟨h4,h⟩:=zL h
  obtain rfl:=sj h
  exact fun j=>lF 0 [] (oB 2 h4 k)
  obtain⟨r5,h6,h⟩:=zB h
  exact fun j=>lH 1 [] [] [] [1,10,11,12] (oD (dT p0.sub)<|oC 1 [] (zWx h6)<|oB 2 h4 k) (zCH h)
  obtain rfl:=sj h
  exact fun j=>lF 0 [] (oB 0 h1 o0)
theorem zYv{qq p0 p1 r}(h:zEU qq p0 p1=some r):zWy p0 p1 r Ct:=(zCG _).1 h
def e95(qq:Nat)(p0:Tm):Option Int:=
 zEU qq p0 0>>=fun r1=>
 some r1
theorem c95{qq p0 r}(h:e95 qq p0=some r):Ct 95 [] [xF p0] (ai r) [] 0:=⟨by
 unfold e95 at h
 obtain⟨r1,h2,h⟩:=zB h
 obtain rfl:=sj h
 exact tF ⟨func95,rfl⟩ 0 [] (oC 1 [] (zYv h2) o0),⟨⟨tv,tv,⟨tv,dT _⟩,tv⟩,tv⟩,zA,tv,zA⟩
mutual
def e96:Nat->Tm->Int->Option Int
 |0,_,_=>none
 |qq+1,p0,p1=>
 if decide (p1>128)then
 some p1
 else
 cQ qq p0 p1 0 p1
def cQ:Nat->Tm->Int->Int->Int->Option Int
 |0,_,_,_,_=>none
 |qq+1,p0,p1,v15,v5=>
 if decide (v15<(p0.sub.length:Int))then
 zR p0.sub v15>>=fun x3=>
 e96 qq x3 (xL (p1+1))>>=fun r5=>
 cQ qq p0 p1 (xL (v15+1)) (kW v5 r5)
 else
 some v5
end
abbrev K96 (p0:Tm) (p1 r:Int) (C:Cf):Prop:=C 96 [] [xF p0,ai p1] (ai r) [] 0
theorem q96:Qf 96 f96:=⟨func96,rfl⟩
theorem zJs:∀qq:Nat,(∀ {p0 p1 r},e96 qq p0 p1=some r->K96 p0 p1 r Ct)∧(∀ {p0 p1 v15 v5 r},cQ qq p0 p1 v15 v5=some r->(∀j,dL 0 (pt 16309 f96) (sp j 27 0 [(1,ai p1),(5,ai v5),(13,zO zD p0.sub .no),(14,ai (p0.sub.length:Int)),(15,ai v15)]) (⟨[],0,[],0,[]⟩) (fQ 0 (nQ 0 f96 (ai r) [] 0) [.blk 0,.seq (pt 255 f96)]))):=by
 intro qq
 induction qq with
 |zero=>
  exact⟨fun h=>nn h,fun h=>nn h⟩
 |succ qq ih=>
  obtain⟨zYu,zGG⟩:=ih
  refine⟨?_,?_⟩
  intro p0 p1 r h
  rw[e96]at h
  obtain⟨h1,h⟩|⟨h1,h⟩:=zL h
  obtain rfl:=sj h
  exact⟨tF q96 0 [] (oB 0 h1 o0),⟨⟨tv,tv,⟨tv,dT _⟩,tv⟩,tv,tv⟩,zA,tv,zA⟩
  exact⟨tH q96 2 [] [] [] [1,5,13,14,15] (oD (dT p0.sub)<|oB 0 h1 o0) (zGG h),⟨⟨tv,tv,⟨tv,dT _⟩,tv⟩,tv,tv⟩,zA,tv,zA⟩
  intro p0 p1 v15 v5 r h
  rw[cQ]at h
  obtain⟨h2,h⟩|⟨h2,h⟩:=zL h
  obtain⟨x3,h4,h⟩:=zB h
  obtain⟨r5,h6,h⟩:=zB h
  exact fun j=>lH 2 [] [] [] [1,5,13,14,15] (oD (dT p0.sub)<|oC 4 [] (zYu h6)<|oA 0 (wN (o:=.no) h4)<|oB 0 h2 o0) (zGG h)
  obtain rfl:=sj h
  exact fun j=>lF 0 [] (oB 0 h2 o0)
theorem c96{qq p0 p1 r}(h:e96 qq p0 p1=some r):K96 p0 p1 r Ct:=(zJs _).1 h
def e64(qq:Nat)(p0:Tm):Option Int:=
 e95 qq p0>>=fun r1=>
 if decide (r1>8192)then
 some 129
 else
 e96 qq p0 1>>=fun r4=>
 some r4
theorem q64:Qf 64 f64:=⟨func64,rfl⟩
theorem c64{qq p0 r}(h:e64 qq p0=some r):Ct 64 [] [xF p0] (ai r) [] 0:=⟨by
 unfold e64 at h
 obtain⟨r1,h2,h⟩:=zB h
 have k:=oC 1 [] (c95 h2) o0
 obtain⟨h3,h⟩|⟨h3,h⟩:=zL h
 obtain rfl:=sj h
 exact tF q64 0 [] (oB 0 h3 k)
 obtain⟨r4,h5,h⟩:=zB h
 obtain rfl:=sj h
 exact tF q64 0 [] (oC 1 [] (c96 h5)<|oB 0 h3 k),⟨⟨tv,tv,⟨tv,dT _⟩,tv⟩,tv⟩,zA,tv,zA⟩
def e97(qq:Nat)(p0:Tm):Option Bool:=
 if decide (p0.k<1)then
 some false
 else
 if decide (p0.k>8)then
 some false
 else
 zR ([0,0,0,2,2,2,0,1,0]:yV) p0.k>>=fun x3=>
 zR ([0,1048576,7,0,0,0,1048576,1048576,1048576]:yV) p0.k>>=fun x5=>
 if (p0.sub.length:Int)==x3 then
 if decide (p0.n≥0)then
 if decide (p0.n≤x5)then
 if p0.k != 7 then
 some true
 else
 zR p0.sub 0>>=fun x11=>
 some (x11.k==2)
 else
 some false
 else
 some false
 else
 some false
theorem q97:Qf 97 f97:=⟨func97,rfl⟩
theorem c97{qq p0 r}(h:e97 qq p0=some r):Ct 97 [] [xF p0] (ab r) [] 0:=⟨by
 unfold e97 at h
 obtain⟨h1,h⟩|⟨h1,h⟩:=zL h
 cases h
 exact tF q97 0 [] (oB 1 h1 o0)
 have k:=oB 1 h1 o0
 obtain⟨h2,h⟩|⟨h2,h⟩:=zL h
 cases h
 exact tF q97 0 [] (oB 1 h2 k)
 obtain⟨x3,h4,h⟩:=zB h
 obtain⟨x5,h6,h⟩:=zB h
 have k:=oA 1 (zCD h6 rfl)<|oA 1 (zCD h4 rfl)<|oB 1 h2 k
 obtain⟨h7,h⟩|⟨h7,h⟩:=zL h
 have k:=oB 2 h7 k
 obtain⟨h8,h⟩|⟨h8,h⟩:=zL h
 have k:=oB 1 h8 k
 obtain⟨h9,h⟩|⟨h9,h⟩:=zL h
 have k:=oB 1 h9 k
 obtain⟨h10,h⟩|⟨h10,h⟩:=zL h
 cases h
 exact tF q97 0 [] (oB 1 h10 k)
 obtain⟨x11,h12,h⟩:=zB h
 cases h
 exact tF q97 2 [] (oA 1 (wN (o:=.no) h12)<|oB 1 h10 k)
 cases h
 exact tF q97 0 [] (oB 1 h9 k)
 cases h
 exact tF q97 0 [] (oB 1 h8 k)
 cases h
 exact tF q97 0 [] (oB 2 h7 k),⟨⟨tv,tv,⟨tv,dT _⟩,tv⟩,tv⟩,zA,tv,zA⟩
mutual
def e65:Nat->Tm->Option Bool
 |0,_=>none
 |qq+1,p0=>
 e97 qq p0>>=fun r1=>
 if r1 then
 cR qq p0 0
 else
 some false
def cR:Nat->Tm->Int->Option Bool
 |0,_,_=>none
 |qq+1,p0,v11=>
 if decide (v11<(p0.sub.length:Int))then
 zR p0.sub v11>>=fun x5=>
 e65 qq x5>>=fun r7=>
 if r7 then
 cR qq p0 (xL (v11+1))
 else
 some false
 else
 some true
end
abbrev K65 (p0:Tm) (r:Bool) (C:Cf):Prop:=C 65 [] [xF p0] (ab r) [] 0
theorem q65:Qf 65 f65:=⟨func65,rfl⟩
theorem zJr:∀qq:Nat,(∀ {p0 r},e65 qq p0=some r->K65 p0 r Ct)∧(∀ {p0 v11 r},cR qq p0 v11=some r->(∀j,dL 0 (pt 4021 f65) (sp j 19 0 [(9,zO zD p0.sub .no),(10,ai (p0.sub.length:Int)),(11,ai v11)]) (⟨[],0,[],0,[]⟩) (fQ 0 (nQ 0 f65 (ab r) [] 0) [.blk 0,.seq (pt 63 f65)]))):=by
 intro qq
 induction qq with
 |zero=>
  exact⟨fun h=>nn h,fun h=>nn h⟩
 |succ qq ih=>
  obtain⟨zWu,zGH⟩:=ih
  refine⟨?_,?_⟩
  intro p0 r h
  rw[e65]at h
  obtain⟨r1,h2,h⟩:=zB h
  obtain⟨h3,h⟩|⟨h3,h⟩:=zL h
  exact⟨tH q65 3 [] [] [] [9,10,11] (oD (dT p0.sub)<|oK 1 [] h3 (c97 h2) o0) (zGH h),⟨⟨tv,tv,⟨tv,dT _⟩,tv⟩,tv⟩,zA,tv,zA⟩
  cases h
  exact⟨tF q65 1 [] (oK 1 [] h3 (c97 h2) o0),⟨⟨tv,tv,⟨tv,dT _⟩,tv⟩,tv⟩,zA,tv,zA⟩
  intro p0 v11 r h
  rw[cR]at h
  obtain⟨h4,h⟩|⟨h4,h⟩:=zL h
  obtain⟨x5,h6,h⟩:=zB h
  obtain⟨r7,h8,h⟩:=zB h
  have k:=oA 0 (wN (o:=.no) h6)<|oB 0 h4 o0
  obtain⟨h9,h⟩|⟨h9,h⟩:=zL h
  exact fun j=>lH 2 [] [] [] [9,10,11] (oD (dT p0.sub)<|oK 3 [] h9 (zWu h8) k) (zGH h)
  cases h
  exact fun j=>lF 1 [] (oK 3 [] h9 (zWu h8) k)
  cases h
  exact fun j=>lF 0 [] (oB 0 h4 o0)
theorem c65{qq p0 r}(h:e65 qq p0=some r):K65 p0 r Ct:=(zJr _).1 h
def G3(qq:Nat)(p0:Tm):Option Bool:=
 e64 qq p0>>=fun r1=>
 if decide (r1≤128)then
 e65 qq p0>>=fun r4=>
 some r4
 else
 some false
theorem q40:Qf 40 Tryz.f40:=⟨func40,rfl⟩
theorem mO{qq p0 r}(h:G3 qq p0=some r):Ct 40 [] [xF p0] (ab r) [] 0:=⟨by
 unfold G3 at h
 obtain⟨r1,h2,h⟩:=zB h
 have k:=oC 1 [] (c64 h2) o0
 obtain⟨h3,h⟩|⟨h3,h⟩:=zL h
 obtain⟨r4,h5,h⟩:=zB h
 obtain rfl:=sj h
 exact tF q40 0 [] (oC 1 [] (c65 h5)<|oB 0 h3 k)
 obtain rfl:=sj h
 exact tF q40 0 [] (oB 0 h3 k),⟨⟨tv,tv,⟨tv,dT _⟩,tv⟩,tv⟩,zA,tv,zA⟩
mutual
theorem zGI:∀(t:Tm) (h:Int),t.Ok->0≤h->h≤8192->zG (fun q=>zEU q t h) (Z1 t h)
 | .mk k n l,h,ho,h0,h1=>by
  refine zG.succ ?_
  simp only[zEU]
  rw[yM (by omega) (by omega),Z1]
  exact zCI l (.mk k n l) 0 (h+1) rfl ho.1 ho.2 (by omega) (by omega)
theorem zCI:∀(l:List Tm) (p:Tm) (v:Nat) (h:Int),p.sub.drop v=l->p.sub.length<9223372036854775808->mN l->0≤h->h≤8193->zG (fun q=>jD q p h (v:Int)) (szL l h)
 | [],p,v,h,hd,hl,ho,h0,h1=>by
  refine zG.succ ?_
  simp only[jD]
  rw[szL]
  exact zG.ifF (drop_nil hd) zG.ret
 |t::l,p,v,h,hd,hl,ho,h0,h1=>by
  refine zG.succ ?_
  simp only[jD]
  refine zG.ifT (yK hd) (zG.pure (yD hd) ?_)
  rw[szL]
  by_cases h2:h>8192
  ·rw[if_pos h2];exact zG.ifT (by simpa using h2) zG.ret
  ·rw[if_neg h2]
   refine zG.ifF (by simpa using h2) ((zGI t h ho.1 h0 (by omega)).bind ?_)
   rw[yE v (by have:=yY hd;omega)]
   have:=zCE t h h0 (by omega)
   exact zCI l p (v+1) (Z1 t h) (zZ hd) hl ho.2 (by omega) (by omega)
end
theorem zGJ(t:Tm)(ho:t.Ok):zG (fun q=>e95 q t) (Z1 t 0):=by
 simp only[e95]
 exact(zGI t 0 ho (by omega) (by omega)).bind zG.ret
mutual
theorem zGK:∀(t:Tm) (a:Int),t.Ok->0≤a->a≤129->zG (fun q=>e96 q t a) (dpT t a)
 | .mk k n l,a,ho,h0,h1=>by
  refine zG.succ ?_
  simp only[e96]
  rw[dpT]
  by_cases h2:a>128
  ·rw[if_pos h2];exact zG.ifT (by simpa using h2) zG.ret
  ·rw[if_neg h2];exact zG.ifF (by simpa using h2) (zCJ l (.mk k n l) 0 a a rfl ho.1 ho.2 h0 (by omega))
theorem zCJ:∀(l:List Tm) (p:Tm) (v:Nat) (a m:Int),p.sub.drop v=l->p.sub.length<9223372036854775808->mN l->0≤a->a≤128->zG (fun q=>cQ q p a (v:Int) m) (dpL l a m)
 | [],p,v,a,m,hd,hl,ho,h0,h1=>by
  refine zG.succ ?_
  simp only[cQ]
  rw[dpL]
  exact zG.ifF (drop_nil hd) zG.ret
 |t::l,p,v,a,m,hd,hl,ho,h0,h1=>by
  refine zG.succ ?_
  simp only[cQ]
  refine zG.ifT (yK hd) (zG.pure (yD hd) ?_)
  rw[dpL,yM (x:=a+1) (by omega) (by omega)]
  refine(zGK t (a+1) ho.1 (by omega) (by omega)).bind ?_
  rw[yE v (by have:=yY hd;omega)]
  exact zCJ l p (v+1) a _ (zZ hd) hl ho.2 h0 h1
end
def zLe(t:Tm):Int:=if Z1 t 0>8192 then 129 else dpT t 1
theorem zLd(t:Tm)(ho:t.Ok):zG (fun q=>e64 q t) (zLe t):=by
 simp only[e64]
 refine(zGJ t ho).bind ?_
 unfold zLe
 by_cases h:Z1 t 0>8192
 ·rw[if_pos h];exact zG.ifT (by simpa using h) zG.ret
 ·rw[if_neg h];exact zG.ifF (by simpa using h) ((zGK t 1 ho (by omega) (by omega)).bind zG.ret)
theorem zPM(t:Tm):zLe t≤128↔t.nodes≤8192∧t.high≤128:=by
 have h1:=zLk t 0 (by omega) (by omega)
 have h2:=zLi t 1 (by omega) (by omega)
 unfold zLe
 by_cases h3:t.nodes≤8192
 ·rw[if_neg (by rw[h1.1 (by omega)];omega)]
  by_cases h4:t.high≤128
  ·rw[h2.1 (by omega)];omega
  ·rw[h2.2 (by omega)];omega
 ·rw[if_pos (by rw[h1.2 (by omega)];omega)];omega
theorem zPN(t:Tm):zG (fun q=>e97 q t) (L6 t):=by
 refine zG.mk fun q=>?_
 unfold e97 L6
 generalize t.k=k
 generalize t.n=n
 generalize t.sub=l
 by_cases h1:k<1
 ·rw[zPJ (decide_eq_true h1)];simp;omega
 ·by_cases h2:k>8
  ·rw[zLo (decide_eq_false h1),zPJ (decide_eq_true h2)];simp;omega
  ·rw[zLo (decide_eq_false h1),zLo (decide_eq_false h2)]
   have:k=1∨k=2∨k=3∨k=4∨k=5∨k=6∨k=7∨k=8:=by omega
   rcases this with rfl|rfl|rfl|rfl|rfl|rfl|rfl|rfl
   case inr.inr.inr.inr.inr.inr.inl=>
    rcases l with _|⟨x,_|⟨y,l⟩⟩<;>simp[zR]<;>grind
   case inr.inr.inl|inr.inr.inr.inl|inr.inr.inr.inr.inl=>
    by_cases hl:l.length=2
    ·simp[zR,hl];grind
    ·have h':¬((l.length:Int)=2):=by omega
     simp[zR,hl,h']
   all_goals (simp[zR];grind)
mutual
theorem zGL:∀(t:Tm),t.Ok->zG (fun q=>e65 q t) (xG t)
 | .mk k n l,ho=>by
  refine zG.succ ?_
  simp only[e65]
  refine(zPN (.mk k n l)).bind ?_
  rw[xG]
  cases L6 (.mk k n l)with
  |false=>exact zG.ifF rfl zG.ret
  |true=>exact zG.ifT rfl (zCK l (.mk k n l) 0 rfl ho.1 ho.2)
theorem zCK:∀(l:List Tm) (p:Tm) (v:Nat),p.sub.drop v=l->p.sub.length<9223372036854775808->mN l->zG (fun q=>cR q p (v:Int)) (qF l)
 | [],p,v,hd,hl,ho=>by
  refine zG.succ ?_
  simp only[cR]
  rw[qF]
  exact zG.ifF (drop_nil hd) zG.ret
 |t::l,p,v,hd,hl,ho=>by
  refine zG.succ ?_
  simp only[cR]
  refine zG.ifT (yK hd) (zG.pure (yD hd) ((zGL t ho.1).bind ?_))
  rw[qF]
  cases xG t with
  |false=>exact zG.ifF rfl zG.ret
  |true=>
   refine zG.ifT rfl ?_
   rw[yE v (by have:=yY hd;omega)]
   exact zCK l p (v+1) (zZ hd) hl ho.2
end
theorem xR(t:Tm)(ho:t.Ok):zG (fun q=>G3 q t) (zH t):=by
 simp only[G3]
 refine(zLd t ho).bind ?_
 have h:=zPM t
 unfold zH
 by_cases h1:zLe t≤128
 ·refine zG.ifT (by simpa using h1) (((zGL t ho).bind zG.ret).eq ?_)
  have:=h.1 h1
  simp[this.1,this.2]
 ·refine zG.ifF (by simpa using h1) (zG.ret.eq ?_)
  by_cases h2:t.nodes≤8192
  ·by_cases h3:t.high≤128
   ·exact absurd (h.2 ⟨h2,h3⟩) h1
   ·simp[h3]
  ·simp[h2]
def zLc(qq:Nat)(p0:Tm)(p1:Int):Option Int:=
 if p1==1 then
 if p0.k==3 then
 some 1
 else
 if p0.k==4 then
 some 1
 else
 some 0
 else
 some 0
theorem zPO:Qf 111 f111:=⟨func111,rfl⟩
theorem zYt{qq p0 p1 r}(h:zLc qq p0 p1=some r):Ct 111 [] [xF p0,ai p1] (ai r) [] 0:=⟨by
 unfold zLc at h
 obtain⟨h1,h⟩|⟨h1,h⟩:=zL h
 have k:=oB 0 h1 o0
 obtain⟨h2,h⟩|⟨h2,h⟩:=zL h
 cases h
 exact tF zPO 0 [] (oB 1 h2 k)
 have k:=oB 1 h2 k
 obtain⟨h3,h⟩|⟨h3,h⟩:=zL h
 cases h
 exact tF zPO 0 [] (oB 1 h3 k)
 cases h
 exact tF zPO 0 [] (oB 1 h3 k)
 cases h
 exact tF zPO 0 [] (oB 0 h1 o0),⟨⟨tv,tv,⟨tv,dT _⟩,tv⟩,tv,tv⟩,zA,tv,zA⟩
mutual
def e74:Nat->Tm->Int->Option Int
 |0,_,_=>none
 |qq+1,p0,p1=>
 if p0.k==1 then
 some (kW 0 (xL ((xL (p0.n+1))-p1)))
 else
 cS qq p0 p1 0 0
def cS:Nat->Tm->Int->Int->Int->Option Int
 |0,_,_,_,_=>none
 |qq+1,p0,p1,v20,v5=>
 if decide (v20<(p0.sub.length:Int))then
 zR p0.sub v20>>=fun x3=>
 zLc qq p0 v20>>=fun r5=>
 e74 qq x3 (xL (p1+r5))>>=fun r7=>
 cS qq p0 p1 (xL (v20+1)) (kW v5 r7)
 else
 some v5
end
abbrev K74 (p0:Tm) (p1 r:Int) (C:Cf):Prop:=C 74 [] [xF p0,ai p1] (ai r) [] 0
theorem q74:Qf 74 f74:=⟨func74,rfl⟩
theorem zJq:∀qq:Nat,(∀ {p0 p1 r},e74 qq p0 p1=some r->K74 p0 p1 r Ct)∧(∀ {p0 p1 v20 v5 r},cS qq p0 p1 v20 v5=some r->(∀j,dL 0 (pt 16309 f74) (sp j 36 0 [(1,ai p1),(2,.mp 0 0),(5,ai v5),(18,zO zD p0.sub .no),(19,ai (p0.sub.length:Int)),(20,ai v20)]) (⟨[(0,.cells [ai p0.k,ai p0.n,zO zD p0.sub .no])],1,[],0,[]⟩) (fQ 0 (nQ 0 f74 (ai r) [] 0) [.blk 0,.seq (pt 255 f74)]))):=by
 intro qq
 induction qq with
 |zero=>
  exact⟨fun h=>nn h,fun h=>nn h⟩
 |succ qq ih=>
  obtain⟨zYs,zGM⟩:=ih
  refine⟨?_,?_⟩
  intro p0 p1 r h
  rw[e74]at h
  obtain⟨h1,h⟩|⟨h1,h⟩:=zL h
  obtain rfl:=sj h
  exact⟨tF q74 4 [] (oB 1 h1 o0),⟨⟨tv,tv,⟨tv,dT _⟩,tv⟩,tv,tv⟩,zA,tv,zA⟩
  exact⟨tH q74 2 [] [0] [] [1,2,5,18,19,20] (oD (dT p0.sub)<|oD (dT p0.sub)<|oB 1 h1 o0) (zGM h),⟨⟨tv,tv,⟨tv,dT _⟩,tv⟩,tv,tv⟩,zA,tv,zA⟩
  intro p0 p1 v20 v5 r h
  rw[cS]at h
  obtain⟨h2,h⟩|⟨h2,h⟩:=zL h
  obtain⟨x3,h4,h⟩:=zB h
  obtain⟨r5,h6,h⟩:=zB h
  obtain⟨r7,h8,h⟩:=zB h
  exact fun j=>lH 2 [] [0] [] [1,2,5,18,19,20] (oD (dT p0.sub)<|oD (dT p0.sub)<|oC 1 [] (zYs h8)<|oC 4 [] (zYt h6)<|oA 0 (wN (o:=.no) h4)<|oB 0 h2 o0) (zGM h)
  obtain rfl:=sj h
  exact fun j=>lF 0 [] (oB 0 h2 o0)
theorem c74{qq p0 p1 r}(h:e74 qq p0 p1=some r):K74 p0 p1 r Ct:=(zJq _).1 h
mutual
def e77:Nat->Tm->Int->Int->Option yV
 |0,_,_,_=>none
 |qq+1,p0,p1,p2=>
 if p0.k==p1 then
 xQ 8 ([]:yV) [p0.n]>>=fun l2=>
 jE qq p0 p1 p2 0 l2
 else
 if p0.k==p2 then
 xQ 8 ([]:yV) [p0.n]>>=fun l5=>
 jE qq p0 p1 p2 0 l5
 else
 jE qq p0 p1 p2 0 []
def jE:Nat->Tm->Int->Int->Int->yV->Option yV
 |0,_,_,_,_,_=>none
 |qq+1,p0,p1,p2,v28,v7=>
 if decide (v28<(p0.sub.length:Int))then
 zR p0.sub v28>>=fun x5=>
 e77 qq x5 p1 p2>>=fun r7=>
 xQ 8 v7 r7>>=fun l9=>
 jE qq p0 p1 p2 (xL (v28+1)) l9
 else
 some v7
end
abbrev K77 (p0:Tm) (p1 p2:Int) (r:yV) (C:Cf):Prop:=C 77 [] [xF p0,ai p1,ai p2] (zO yH r (.st 0 1)) [] 1
theorem q77:Qf 77 f77:=⟨func77,rfl⟩
theorem k77{p0 p1 p2 r}(h:K77 p0 p1 p2 r Ci):K77 p0 p1 p2 r Ct:=⟨h,⟨⟨tv,tv,⟨tv,dT _⟩,tv⟩,tv,tv,tv⟩,zA,dI _,zA⟩
theorem zJp:∀qq:Nat,(∀ {p0 p1 p2 r},e77 qq p0 p1 p2=some r->K77 p0 p1 p2 r Ct)∧(∀ {p0 p1 p2 v28 v7 r},jE qq p0 p1 p2 v28 v7=some r->(∀j,dL 0 (pt 16309 f77) (sp j 40 0 [(1,ai p1),(2,ai p2),(7,zO yH v7 (.st 0 1)),(26,zO zD p0.sub .no),(27,ai (p0.sub.length:Int)),(28,ai v28)]) (⟨[],0,[0],1,[]⟩) (fQ 0 (nQ 0 f77 (zO yH r (.st 0 1)) [] 1) [.blk 0,.seq (pt 255 f77)]))∧(∀j,dL 0 (pt 16309 f77) (sp j 40 0 [(1,ai p1),(2,ai p2),(7,zO yH v7 .nl),(26,zO zD p0.sub .no),(27,ai (p0.sub.length:Int)),(28,ai v28)]) (⟨[],0,[],0,[]⟩) (fQ 0 (nQ 0 f77 (zO yH r (.st 0 1)) [] 1) [.blk 0,.seq (pt 255 f77)]))):=by
 intro qq
 induction qq with
 |zero=>
  exact⟨fun h=>nn h,fun h=>nn h⟩
 |succ qq ih=>
  obtain⟨zWt,jF⟩:=ih
  refine⟨?_,?_⟩
  intro p0 p1 p2 r h
  rw[e77]at h
  obtain⟨h1,h⟩|⟨h1,h⟩:=zL h
  obtain⟨l2,h3,h⟩:=zB h
  exact k77 (tH q77 2 [] [] [0] [1,2,7,26,27,28] (oD (dT p0.sub)<|oD (dI l2)<|oP 2 (kB h3 (by simp))<|oB 1 h1 o0) ((jF h).1))
  have k:=oB 1 h1 o0
  obtain⟨h4,h⟩|⟨h4,h⟩:=zL h
  obtain⟨l5,h6,h⟩:=zB h
  exact k77 (tH q77 2 [] [] [0] [1,2,7,26,27,28] (oD (dT p0.sub)<|oD (dI l5)<|oP 2 (kB h6 (by simp))<|oB 1 h4 k) ((jF h).1))
  exact k77 (tH q77 2 [] [] [] [1,2,7,26,27,28] (oD (dT p0.sub)<|oD (dI ([]:yV))<|oB 1 h4 k) ((jF h).2))
  intro p0 p1 p2 v28 v7 r h
  rw[jE]at h
  refine⟨?_,?_⟩
  obtain⟨h4,h⟩|⟨h4,h⟩:=zL h
  obtain⟨x5,h6,h⟩:=zB h
  obtain⟨r7,h8,h⟩:=zB h
  obtain⟨l9,h10,h⟩:=zB h
  have k:=oC 3 [] (zWt h8)<|oA 0 (wN (o:=.no) h6)<|oB 0 h4 o0
  by_cases h11:List.length r7=0
  exact fun j=>lH 1 [] [] [0] [1,2,7,26,27,28] (oD (dT p0.sub)<|oD (dI l9)<|oP 0 (zGB h10 h11) k) ((jF h).1)
  exact fun j=>lH 1 [] [] [2] [1,2,7,26,27,28] (oD (dT p0.sub)<|oD (dI l9)<|oP 0 (kB h10 h11) k) ((jF h).1)
  obtain rfl:=sj h
  exact fun j=>lG 0 [] [] [0] true (oD (dI v7)<|oB 0 h4 o0)
  obtain⟨h4,h⟩|⟨h4,h⟩:=zL h
  obtain⟨x5,h6,h⟩:=zB h
  obtain⟨r7,h8,h⟩:=zB h
  obtain⟨l9,h10,h⟩:=zB h
  have k:=oC 3 [] (zWt h8)<|oA 0 (wN (o:=.no) h6)<|oB 0 h4 o0
  by_cases h11:List.length r7=0
  exact fun j=>lH 1 [] [] [] [1,2,7,26,27,28] (oD (dT p0.sub)<|oD (dI l9)<|oP 0 (zGB h10 h11) k) ((jF h).2)
  exact fun j=>lH 1 [] [] [1] [1,2,7,26,27,28] (oD (dT p0.sub)<|oD (dI l9)<|oP 0 (kB h10 h11) k) ((jF h).1)
  obtain rfl:=sj h
  exact fun j=>lG 0 [(none,6,1)] [] [0] true (oD (dI v7)<|oB 0 h4 o0)
theorem c77{qq p0 p1 p2 r}(h:e77 qq p0 p1 p2=some r):K77 p0 p1 p2 r Ct:=(zJp _).1 h
def e75(qq:Nat)(p0:Tm):Option yV:=
 (G3 qq p0)>>=fun r1=>
 if r1=true then
  (e77 qq p0 6 7)>>=fun r4=>
  if decide (List.length r4<4611686018427387904)=true then some (vI r4)else none
 else
  some []
theorem c75{qq:Nat}{p0:Tm}{r:yV}(h:e75 qq p0=some r):CT prog 75 [] [xF p0] (.sl (flat yH r) r.length .no) [] 0:=by
 unfold e75 at h
 obtain⟨r1,h2,h⟩:=zB h
 rcases H9 r1 with h3|h3
 ·replace h:=ifT h3 h
  obtain⟨l,h5,h⟩:=zB h
  rcases H9 (decide (List.length l<4611686018427387904))with h6|h6
  ·replace h:=ifT h6 h
   replace h:=Option.some.inj h
   subst h
   subst h3
   have hsz:List.length l<4611686018427387904:=by simpa using h6
   refine⟨?_,⟨⟨trivial,trivial,⟨trivial,dT _⟩,trivial⟩,trivial⟩,(fun _ h=>nomatch h),dI _,(fun _ h=>nomatch h)⟩
   have k0:knd (wT f75)=1:=by kernel_rfl
   have k1:knd (yO (wT f75))=1:=by kernel_rfl
   have k2:knd (yO (yO (wT f75)))=1:=by kernel_rfl
   have k3:gY (sD (yO (yO (wT f75))))=true:=by kernel_rfl
   have k4:S5 (xN (sD (yO (yO (wT f75)))))[2]? = some (some 8,76,#[.tmp 7]):=by kernel_rfl
   have k5:(f76.name == "runtime.NumGoroutine")=false:=by kernel_rfl
   have k6:f76.body.isNone=false:=by kernel_rfl
   have x1:qH prog sO 3000 (.run (sD (wT f75))) [] ([xF p0]++List.replicate (f75.ntmps-1) (.val undef)) (H2 []) []=some (.fin .normal,[xF p0,.mp 0 0,.sl [] 0 .nl,.val undef,.val undef,.val undef,.val undef,.val undef,.val undef],⟨[(0,.cells (gW p0))],1,[],0,[]⟩,[],[]):=by kernel_rfl
   have x2:qH prog sO 3000 (.run (sD (yO (wT f75)))) [] [xF p0,.mp 0 0,.sl [] 0 .nl,.val undef,.val undef,.val undef,.val undef,.val undef,.val undef] ⟨[(0,.cells (gW p0))],1,[],0,[]⟩ [.no,.call [] [] 0 (ab true) (some true),.no]=some (.fin .normal,[xF p0,.mp 0 0,.sl [] 0 .nl,xF p0,ab true,ab false,.val undef,.val undef,.val undef],⟨[(0,.cells (gW p0))],1,[],0,[]⟩,[],[.bit true true,.call 40 [] [xF p0] (ab true) [] 0]):=by kernel_rfl
   have x3:(lW prog sO (xN (sD (yO (yO (wT f75))))) ((xN (sD (yO (yO (wT f75))))).toList.take 2) 0 [xF p0,.mp 0 0,.sl [] 0 .nl,xF p0,ab true,ab false,.val undef,.val undef,.val undef] ⟨[(0,.cells (gW p0))],1,[],0,[]⟩ [.no,.call [] [] 1 (.sl (flat yH l) l.length (.st 0 1)) none]).map Prod.snd=some ([xF p0,.mp 0 0,.sl [] 0 .nl,xF p0,ab true,ab false,xF p0,.sl (flat yH l) l.length (.st 0 1),.val undef],⟨[(0,.cells (gW p0))],1,[0],1,[]⟩,[],[.call 77 [] [xF p0,ai 6,ai 7] (.sl (flat yH l) l.length (.st 0 1)) [] 1]):=by kernel_rfl
   have x4:∀j:Nat->Value,(lW prog sO (xN (sD (yO (yO (wT f75))))) ((xN (sD (yO (yO (wT f75))))).toList.drop 3) 3 (eset (tells [] (mutEnv [] j [xF p0,.mp 0 0,.sl [] 0 .nl,xF p0,ab true,ab false,xF p0,.sl (flat yH l) l.length (.st 0 1),.val undef] 0)) (some 8) (.sl (flat yH (vI l)) (vI l).length .no)) (qM [] ⟨[(0,.cells (gW p0))],1,[0],1,[]⟩) []).map Prod.snd=some ([.val (j 0),.val (j 1),.sl (flat yH (vI l)) (vI l).length .no,.val (j 3),ab true,ab false,.val (j 6),.val (j 7),.sl (flat yH (vI l)) (vI l).length .no],⟨[],1,[],0,[]⟩,[],[]):=fun j=>by kernel_rfl
   have x5:∀j:Nat->Value,dA prog sO 0 f75 3000 (.run (yO (yO (yO (wT f75))))) [] [.val (j 0),.val (j 1),.sl (flat yH (vI l)) (vI l).length .no,.val (j 3),ab true,ab false,.val (j 6),.val (j 7),.sl (flat yH (vI l)) (vI l).length .no] ⟨[],1,[],0,[]⟩ [] [] [] [] false=some (.sl (flat yH (vI l)) (vI l).length .no,[],[.data (flat yH (vI l))]):=fun j=>by kernel_rfl
   refine uH.body func75 (by kernel_rfl) ?_
   refine Dv.seqP k0 ?_
   refine pU (Q:=_) xW mixed 3000 (.run (sD (wT f75))) [] _ _ _ _ _ _ _ _ x1 zW.nil ?_
   refine Dv.seqP k1 ?_
   refine pU (Q:=_) xW mixed 3000 (.run (sD (yO (wT f75)))) [] _ _ _ _ _ _ _ _ x2 (zW.cons (lY rfl) (zW.cons (gX (mO h2)) zW.nil)) ?_
   refine Dv.seqP k2 ?_
   obtain⟨id,k7⟩:=zIX k3
   rw[k7]
   refine Dv.mut xW (na:=(0:Nat)) rfl 2 [] [] _ x3 (zW.cons (gX (c77 h5)) zW.nil) k4 func76 k5 k6 (fun i X h=>by cases h) ?_ x4 zW.nil ?_
   ·intro G0 W hB G w hE hR u hu
    refine(m0 hR (by rfl) hsz hu).mono ?_
    rintro e w' ⟨v,b,S,z1,z2,z3,z4,z5,z6⟩
    exact⟨v,b,S,z1,z2,z3,z4,z5,fun G' _ _ hS=>⟨z6 G' hS,fun q hq=>by cases hq⟩⟩
   ·intro j
    exact kV (na:=(0:Nat)) xW mixed (x5 j) (zW.cons (qL (dI _)) zW.nil) (by decide)
  ·replace h:=ifF h6 h
   cases h
 ·replace h:=ifF h3 h
  replace h:=Option.some.inj h
  subst h
  exact⟨uH.toFin xW mixed func75 (by kernel_rfl) 3000 [.no,.call [] [] 0 (ab r1) (some false),.no] [] [] [] false (by kernel_rfl) (zW.cons (lY h3) (zW.cons (gX (mO h2)) (zW.cons (qL (dI ([]:yV))) zW.nil))) (by decide),⟨⟨trivial,trivial,⟨trivial,dT _⟩,trivial⟩,trivial⟩,(fun _ h=>nomatch h),dI _,(fun _ h=>nomatch h)⟩
def e48(qq:Nat)(p0:Tm)(p1 p2:Int):Option Bool:=
 G3 qq p0>>=fun r1=>
 if r1 then
 e74 qq p0 0>>=fun r4=>
 if decide (r4>p1)then
 some false
 else
 e75 qq p0>>=fun r7=>
 if (r7.length:Int)==0 then
 some true
 else
 zR r7 (xL ((r7.length:Int)-1))>>=fun x10=>
 some (decide (x10<p2))
 else
 some false
theorem q48:Qf 48 f48:=⟨func48,rfl⟩
theorem c48{qq p0 p1 p2 r}(h:e48 qq p0 p1 p2=some r):Ct 48 [] [xF p0,ai p1,ai p2] (ab r) [] 0:=⟨by
 unfold e48 at h
 obtain⟨r1,h2,h⟩:=zB h
 obtain⟨h3,h⟩|⟨h3,h⟩:=zL h
 obtain⟨r4,h5,h⟩:=zB h
 have k:=oC 2 [] (c74 h5)<|oK 1 [] h3 (mO h2) o0
 obtain⟨h6,h⟩|⟨h6,h⟩:=zL h
 cases h
 exact tF q48 0 [] (oB 0 h6 k)
 obtain⟨r7,h8,h⟩:=zB h
 have k:=oC 1 [] (c75 h8)<|oB 0 h6 k
 obtain⟨h9,h⟩|⟨h9,h⟩:=zL h
 cases h
 exact tF q48 0 [] (oB 1 h9 k)
 obtain⟨x10,h11,h⟩:=zB h
 cases h
 exact tF q48 2 [] (oA 2 (I0 (o:=.no) h11)<|oB 1 h9 k)
 cases h
 exact tF q48 1 [] (oK 1 [] h3 (mO h2) o0),⟨⟨tv,tv,⟨tv,dT _⟩,tv⟩,tv,tv,tv⟩,zA,tv,zA⟩
def e49(qq:Nat)(p0:Tm):Option yV:=
 (G3 qq p0)>>=fun r1=>
 if r1=true then
  (e77 qq p0 8 8)>>=fun r4=>
  if decide (List.length r4<4611686018427387904)=true then some (vI r4)else none
 else
  some []
theorem c49{qq:Nat}{p0:Tm}{r:yV}(h:e49 qq p0=some r):CT prog 49 [] [xF p0] (.sl (flat yH r) r.length .no) [] 0:=by
 unfold e49 at h
 obtain⟨r1,h2,h⟩:=zB h
 rcases H9 r1 with h3|h3
 ·replace h:=ifT h3 h
  obtain⟨l,h5,h⟩:=zB h
  rcases H9 (decide (List.length l<4611686018427387904))with h6|h6
  ·replace h:=ifT h6 h
   replace h:=Option.some.inj h
   subst h
   subst h3
   have hsz:List.length l<4611686018427387904:=by simpa using h6
   refine⟨?_,⟨⟨trivial,trivial,⟨trivial,dT _⟩,trivial⟩,trivial⟩,(fun _ h=>nomatch h),dI _,(fun _ h=>nomatch h)⟩
   have k0:knd (wT f49)=1:=by kernel_rfl
   have k1:knd (yO (wT f49))=1:=by kernel_rfl
   have k2:knd (yO (yO (wT f49)))=1:=by kernel_rfl
   have k3:gY (sD (yO (yO (wT f49))))=true:=by kernel_rfl
   have k4:S5 (xN (sD (yO (yO (wT f49)))))[2]? = some (some 8,76,#[.tmp 7]):=by kernel_rfl
   have k5:(f76.name == "runtime.NumGoroutine")=false:=by kernel_rfl
   have k6:f76.body.isNone=false:=by kernel_rfl
   have x1:qH prog sO 3000 (.run (sD (wT f49))) [] ([xF p0]++List.replicate (f49.ntmps-1) (.val undef)) (H2 []) []=some (.fin .normal,[xF p0,.mp 0 0,.sl [] 0 .nl,.val undef,.val undef,.val undef,.val undef,.val undef,.val undef],⟨[(0,.cells (gW p0))],1,[],0,[]⟩,[],[]):=by kernel_rfl
   have x2:qH prog sO 3000 (.run (sD (yO (wT f49)))) [] [xF p0,.mp 0 0,.sl [] 0 .nl,.val undef,.val undef,.val undef,.val undef,.val undef,.val undef] ⟨[(0,.cells (gW p0))],1,[],0,[]⟩ [.no,.call [] [] 0 (ab true) (some true),.no]=some (.fin .normal,[xF p0,.mp 0 0,.sl [] 0 .nl,xF p0,ab true,ab false,.val undef,.val undef,.val undef],⟨[(0,.cells (gW p0))],1,[],0,[]⟩,[],[.bit true true,.call 40 [] [xF p0] (ab true) [] 0]):=by kernel_rfl
   have x3:(lW prog sO (xN (sD (yO (yO (wT f49))))) ((xN (sD (yO (yO (wT f49))))).toList.take 2) 0 [xF p0,.mp 0 0,.sl [] 0 .nl,xF p0,ab true,ab false,.val undef,.val undef,.val undef] ⟨[(0,.cells (gW p0))],1,[],0,[]⟩ [.no,.call [] [] 1 (.sl (flat yH l) l.length (.st 0 1)) none]).map Prod.snd=some ([xF p0,.mp 0 0,.sl [] 0 .nl,xF p0,ab true,ab false,xF p0,.sl (flat yH l) l.length (.st 0 1),.val undef],⟨[(0,.cells (gW p0))],1,[0],1,[]⟩,[],[.call 77 [] [xF p0,ai 8,ai 8] (.sl (flat yH l) l.length (.st 0 1)) [] 1]):=by kernel_rfl
   have x4:∀j:Nat->Value,(lW prog sO (xN (sD (yO (yO (wT f49))))) ((xN (sD (yO (yO (wT f49))))).toList.drop 3) 3 (eset (tells [] (mutEnv [] j [xF p0,.mp 0 0,.sl [] 0 .nl,xF p0,ab true,ab false,xF p0,.sl (flat yH l) l.length (.st 0 1),.val undef] 0)) (some 8) (.sl (flat yH (vI l)) (vI l).length .no)) (qM [] ⟨[(0,.cells (gW p0))],1,[0],1,[]⟩) []).map Prod.snd=some ([.val (j 0),.val (j 1),.sl (flat yH (vI l)) (vI l).length .no,.val (j 3),ab true,ab false,.val (j 6),.val (j 7),.sl (flat yH (vI l)) (vI l).length .no],⟨[],1,[],0,[]⟩,[],[]):=fun j=>by kernel_rfl
   have x5:∀j:Nat->Value,dA prog sO 0 f49 3000 (.run (yO (yO (yO (wT f49))))) [] [.val (j 0),.val (j 1),.sl (flat yH (vI l)) (vI l).length .no,.val (j 3),ab true,ab false,.val (j 6),.val (j 7),.sl (flat yH (vI l)) (vI l).length .no] ⟨[],1,[],0,[]⟩ [] [] [] [] false=some (.sl (flat yH (vI l)) (vI l).length .no,[],[.data (flat yH (vI l))]):=fun j=>by kernel_rfl
   refine uH.body func49 (by kernel_rfl) ?_
   refine Dv.seqP k0 ?_
   refine pU (Q:=_) xW mixed 3000 (.run (sD (wT f49))) [] _ _ _ _ _ _ _ _ x1 zW.nil ?_
   refine Dv.seqP k1 ?_
   refine pU (Q:=_) xW mixed 3000 (.run (sD (yO (wT f49)))) [] _ _ _ _ _ _ _ _ x2 (zW.cons (lY rfl) (zW.cons (gX (mO h2)) zW.nil)) ?_
   refine Dv.seqP k2 ?_
   obtain⟨id,k7⟩:=zIX k3
   rw[k7]
   refine Dv.mut xW (na:=(0:Nat)) rfl 2 [] [] _ x3 (zW.cons (gX (c77 h5)) zW.nil) k4 func76 k5 k6 (fun i X h=>by cases h) ?_ x4 zW.nil ?_
   ·intro G0 W hB G w hE hR u hu
    refine(m0 hR (by rfl) hsz hu).mono ?_
    rintro e w' ⟨v,b,S,z1,z2,z3,z4,z5,z6⟩
    exact⟨v,b,S,z1,z2,z3,z4,z5,fun G' _ _ hS=>⟨z6 G' hS,fun q hq=>by cases hq⟩⟩
   ·intro j
    exact kV (na:=(0:Nat)) xW mixed (x5 j) (zW.cons (qL (dI _)) zW.nil) (by decide)
  ·replace h:=ifF h6 h
   cases h
 ·replace h:=ifF h3 h
  replace h:=Option.some.inj h
  subst h
  exact⟨uH.toFin xW mixed func49 (by kernel_rfl) 3000 [.no,.call [] [] 0 (ab r1) (some false),.no] [] [] [] false (by kernel_rfl) (zW.cons (lY h3) (zW.cons (gX (mO h2)) (zW.cons (qL (dI ([]:yV))) zW.nil))) (by decide),⟨⟨trivial,trivial,⟨trivial,dT _⟩,trivial⟩,trivial⟩,(fun _ h=>nomatch h),dI _,(fun _ h=>nomatch h)⟩
theorem zGN(a b:Int):kW a b=max a b:=by unfold kW;split<;>omega
theorem xV{k n:Int}{l:List Tm}(h:xG (.mk k n l)=true):L6 (.mk k n l)=true∧qF l=true:=by
 rw[xG]at h;simpa using h
theorem wC{t:Tm}{l:List Tm}(h:qF (t::l)=true):xG t=true∧qF l=true:=by
 rw[qF]at h;simpa using h
theorem cT{k n:Int}{l:List Tm}(h:L6 (.mk k n l)=true):0≤n∧n≤1048576∧1≤k∧k≤8∧l.length≤2:=by
 have:=wQ h
 exact⟨this.2.2.1,this.2.2.2.1,this.1,this.2.1,this.2.2.2.2.1⟩
mutual
theorem rS:∀t:Tm,xG t=true->t.Ok
 | .mk k n l,h=>by
  have h1:=xV h
  rw[Tm.Ok]
  exact⟨by have:=(cT h1.1).2.2.2.2;omega,zCL l h1.2⟩
theorem zCL:∀l:List Tm,qF l=true->mN l
 | [],_=>by rw[mN];trivial
 |t::l,h=>by
  have:=wC h
  rw[mN]
  exact⟨rS t this.1,zCL l this.2⟩
end
mutual
theorem zPP:∀(t:Tm) (b:Int),0≤cP t b
 | .mk k n l,b=>by
  rw[cP];split
  ·omega
  ·exact zGO l k 0 b
theorem zGO:∀(l:List Tm) (k:Int) (i:Nat) (b:Int),0≤dB l k i b
 | [],k,i,b=>by rw[dB];omega
 |t::l,k,i,b=>by rw[dB];have:=zPP t (b+N1 k i);omega
end
theorem zLa(t:Tm)(i:Nat):zG (fun q=>zLc q t (i:Int)) (N1 t.k i):=by
 refine zG.mk fun q=>?_
 simp only[zLc,N1]
 by_cases h1:i=1
 ·subst h1;simp;by_cases h3:t.k=3<;>by_cases h4:t.k=4<;>simp[h3,h4]
 ·have:¬((i:Int)=1):=by omega
  simp[h1,this]
theorem zGP(k:Int)(i:Nat):0≤N1 k i∧N1 k i≤1:=by unfold N1;split<;>omega
mutual
theorem zCM:∀(t:Tm) (b:Int),xG t=true->0≤b->b+t.high≤4611686018427387904->zG (fun q=>e74 q t b) (cP t b)
 | .mk k n l,b,hg,h0,h1=>by
  refine zG.succ ?_
  simp only[e74,Tm.k,Tm.n]
  have hh:=xV hg
  have hn:=cT hh.1
  rw[cP]
  by_cases hk:k=1
  ·rw[if_pos hk]
   rw[Tm.high]at h1
   refine zG.ifT (by simpa using hk) (zG.ret.eq ?_)
   rw[yM (x:=n+1) (by omega) (by omega),yM (by omega) (by omega),zGN]
  ·rw[if_neg hk]
   refine zG.ifF (by simpa using hk) ?_
   rw[Tm.high]at h1
   exact(m8 l (.mk k n l) 0 b 0 rfl (by have:=hn.2.2.2.2;simp only[Tm.sub];omega) hh.2 h0 (by omega) (by omega)).eq (by have:=zGO l k 0 b;simp only[Tm.k];omega)
theorem m8:∀(l:List Tm) (p:Tm) (v:Nat) (b m:Int),p.sub.drop v=l->p.sub.length<9223372036854775808->qF l=true->0≤b->0≤m->b+1+pI l≤4611686018427387904->zG (fun q=>cS q p b (v:Int) m) (max m (dB l p.k v b))
 | [],p,v,b,m,hd,hl,ho,h0,hm,h1=>by
  refine zG.succ ?_
  simp only[cS]
  rw[dB]
  exact zG.ifF (drop_nil hd) (zG.ret.eq (by omega))
 |t::l,p,v,b,m,hd,hl,ho,h0,hm,h1=>by
  refine zG.succ ?_
  simp only[cS]
  have hg:=wC ho
  have hu:=zGP p.k v
  rw[pI]at h1
  refine zG.ifT (yK hd) (zG.pure (yD hd) ((zLa p v).bind ?_))
  rw[yM (x:=b+N1 p.k v) (by omega) (by omega)]
  refine(zCM t (b+N1 p.k v) hg.1 (by omega) (by omega)).bind ?_
  rw[yE v (by have:=yY hd;omega),zGN]
  refine(m8 l p (v+1) b _ (zZ hd) hl hg.2 h0 (by omega) (by omega)).eq ?_
  rw[dB];omega
end
mutual
theorem A9:∀(t:Tm) (a b:Int),(lK t a b).length≤t.nodes
 | .mk k n l,a,b=>by
  rw[lK,Tm.nodes]
  have:=zCN l a b
  split<;>simp<;>omega
theorem zCN:∀(l:List Tm) (a b:Int),(T7 l a b).length≤yN l
 | [],a,b=>by rw[T7,yN];simp
 |t::l,a,b=>by
  rw[T7,yN]
  have:=A9 t a b
  have:=zCN l a b
  simp;omega
end
mutual
theorem cU:∀(t:Tm) (a b:Int),t.Ok->t.nodes≤8192->zG (fun q=>e77 q t a b) (lK t a b)
 | .mk k n l,a,b,ho,hn=>by
  refine zG.succ ?_
  simp only[e77,Tm.k,Tm.n]
  rw[lK]
  rw[Tm.nodes]at hn
  by_cases ha:k=a
  ·refine zG.ifT (by simpa using ha) (zG.pure (xB (by simp)) ?_)
   rw[if_pos (.inl ha)]
   exact mV l (.mk k n l) 0 a b [n] rfl ho.1 ho.2 (by simp;omega)
  ·refine zG.ifF (by simpa using ha) ?_
   by_cases hb:k=b
   ·refine zG.ifT (by simpa using hb) (zG.pure (xB (by simp)) ?_)
    rw[if_pos (.inr hb)]
    exact mV l (.mk k n l) 0 a b [n] rfl ho.1 ho.2 (by simp;omega)
   ·refine zG.ifF (by simpa using hb) ?_
    rw[if_neg (by simp[ha,hb])]
    exact mV l (.mk k n l) 0 a b [] rfl ho.1 ho.2 (by simp;omega)
theorem mV:∀(l:List Tm) (p:Tm) (v:Nat) (a b:Int) (m:List Int),p.sub.drop v=l->p.sub.length<9223372036854775808->mN l->m.length+yN l≤8192->zG (fun q=>jE q p a b (v:Int) m) (m++T7 l a b)
 | [],p,v,a,b,m,hd,hl,ho,hn=>by
  refine zG.succ ?_
  simp only[jE]
  rw[T7]
  exact zG.ifF (drop_nil hd) (zG.ret.eq (by simp))
 |t::l,p,v,a,b,m,hd,hl,ho,hn=>by
  refine zG.succ ?_
  simp only[jE]
  rw[yN]at hn
  have hc:=A9 t a b
  refine zG.ifT (yK hd) (zG.pure (yD hd) ((cU t a b ho.1 (by omega)).bind (zG.pure (xB (by omega)) ?_)))
  rw[yE v (by have:=yY hd;omega)]
  refine(mV l p (v+1) a b _ (zZ hd) hl ho.2 (by simp;omega)).eq ?_
  rw[T7];simp
end
theorem zI{t:Tm}(h:zH t=true):t.nodes≤8192∧t.high≤128∧xG t=true:=by
 unfold zH at h;simp at h;exact⟨h.1.1,h.1.2,h.2⟩
def iT(t:Tm)(a b:Int):List Int:=if zH t=true then vI (lK t a b)else []
theorem T9(t:Tm)(ho:t.Ok):zG (fun q=>e49 q t) (iT t 8 8):=by
 simp only[e49]
 refine(xR t ho).bind ?_
 unfold iT
 by_cases h:zH t=true
 ·have hs:=zI h
  have:=A9 t 8 8
  rw[if_pos h]
  refine zG.ifT h ((cU t 8 8 ho hs.1).bind (zG.mk fun q=>?_))
  rw[if_pos (by simp;omega)]
 ·rw[if_neg h];exact zG.ifF (by simpa using h) zG.ret
theorem zEV(t:Tm)(ho:t.Ok):zG (fun q=>e75 q t) (iT t 6 7):=by
 simp only[e75]
 refine(xR t ho).bind ?_
 unfold iT
 by_cases h:zH t=true
 ·have hs:=zI h
  have:=A9 t 6 7
  rw[if_pos h]
  refine zG.ifT h ((cU t 6 7 ho hs.1).bind (zG.mk fun q=>?_))
  rw[if_pos (by simp;omega)]
 ·rw[if_neg h];exact zG.ifF (by simpa using h) zG.ret
theorem U0(x:Int):∀l:List Int,x∈vM l↔x∈l
 | []=>by simp[vM]
 | [y]=>by simp[vM]
 |y::z::l=>by
  rw[pO]
  have:=U0 x (z::l)
  split
  ·subst_vars;rw[this];simp
  ·rw[List.mem_cons,this];simp
theorem fC(x:Int)(l:List Int):x∈vI l↔x∈l:=by
 unfold vI
 rw[U0]
 exact(mC l).mem_iff
theorem L8:∀l:List Int,l.Pairwise (· ≤ ·)->(vM l).Pairwise (· ≤ ·)
 | [],_=>by simp[vM]
 | [y],_=>by simp[vM]
 |y::z::l,h=>by
  rw[pO]
  have h2:=L8 (z::l) (List.pairwise_cons.1 h).2
  split
  ·exact h2
  ·refine List.pairwise_cons.2 ⟨fun w hw=>?_,h2⟩
   exact(List.pairwise_cons.1 h).1 w ((U0 w _).1 hw)
theorem zCO(l:List Int):(vI l).Pairwise (· ≤ ·):=L8 _ (jA l)
theorem zCP:∀(l:List Int) (h:l≠[]),l.Pairwise (· ≤ ·)->∀x∈l,x≤l.getLast h
 | [y],_,_,x,hx=>by simp at hx;simp[hx]
 |y::z::l,_,hp,x,hx=>by
  rw[List.getLast_cons (by simp)]
  have h2:=List.pairwise_cons.1 hp
  rcases List.mem_cons.1 hx with rfl|hx
  ·exact h2.1 _ (List.getLast_mem _)
  ·exact zCP (z::l) (by simp) h2.2 x hx
def rV(t:Tm)(f n:Int):Bool:=zH t&&decide (cP t 0≤f)&&(lK t 6 7).all fun x=>decide (x<n)
theorem kD(t:Tm)(f n:Int)(ho:t.Ok):zG (fun q=>e48 q t f n) (rV t f n):=by
 simp only[e48]
 refine(xR t ho).bind ?_
 unfold rV
 by_cases h:zH t=true
 ·have hs:=zI h
  have hlen:=A9 t 6 7
  refine zG.ifT h ((zCM t 0 hs.2.2 (by omega) (by omega)).bind ?_)
  rw[h]
  by_cases h2:cP t 0>f
  ·exact zG.ifT (by simpa using h2) (zG.ret.eq (by simp;omega))
  ·refine zG.ifF (by simpa using h2) ((zEV t ho).bind ?_)
   have h2':decide (cP t 0≤f)=true:=by simp;omega
   rw[h2']
   unfold iT
   rw[if_pos h]
   have hr:=S9 (lK t 6 7)
   by_cases h3:vI (lK t 6 7)=[]
   ·refine zG.ifT (by rw[h3];rfl) (zG.ret.eq ?_)
    symm
    simp only[Bool.true_and,List.all_eq_true]
    intro x hx
    rw[←fC,h3]at hx;cases hx
   ·have hpos:0<(vI (lK t 6 7)).length:=List.length_pos_iff.2 h3
    refine zG.ifF (by simp;omega) (zG.pure (a:=(vI (lK t 6 7)).getLast h3) ?_ (zG.ret.eq ?_))
    ·rw[yM (by omega) (by omega)]
     unfold zR
     rw[if_pos (by omega),List.getLast_eq_getElem,show ((vI (lK t 6 7)).length-1:Int).toNat=(vI (lK t 6 7)).length-1 by omega]
     exact List.getElem?_eq_getElem _
    ·have hm:=zCP _ h3 (zCO _)
     rw[Bool.eq_iff_iff]
     simp only[decide_eq_true_eq,Bool.true_and,List.all_eq_true]
     constructor
     ·intro h4 x hx
      have:=hm x ((fC x _).2 hx)
      omega
     ·intro h4
      exact h4 _ ((fC _ _).1 (List.getLast_mem h3))
 ·exact zG.ifF (by simpa using h) (zG.ret.eq (by simp[h]))
mutual
def e53:Nat->Tm->Option Tm
 |0,_=>none
 |qq+1,p0=>
 cV qq p0 0 []
def cV:Nat->Tm->Int->zQ->Option Tm
 |0,_,_,_=>none
 |qq+1,p0,v14,uM=>
 if decide (v14<(p0.sub.length:Int))then
 zR p0.sub v14>>=fun x2=>
 e53 qq x2>>=fun r4=>
 xQ 40 uM [r4]>>=fun l6=>
 cV qq p0 (xL (v14+1)) l6
 else
 some (Tm.mk p0.k p0.n uM)
end
abbrev K53 (p0 r:Tm) (C:Cf):Prop:=C 53 [] [xF p0] (xF r) [] 0
theorem zJo:∀qq:Nat,(∀ {p0 r},e53 qq p0=some r->K53 p0 r Ct)∧(∀ {p0 v14 uM r},cV qq p0 v14 uM=some r->(∀j,dL 0 (pt 4021 f53) (sp j 27 0 [(2,.mp 0 0),(3,.mp 1 0),(12,zO zD p0.sub .no),(13,ai (p0.sub.length:Int)),(14,ai v14)]) (⟨[(0,.cells [ai 0,ai 0,zO zD ([]:zQ) .nl]),(1,.cells [ai p0.k,ai p0.n,zO zD uM (.st 0 3)])],2,[0],1,[]⟩) (fQ 0 (nQ 0 f53 (xF r) [] 0) [.blk 0,.seq (pt 63 f53)]))):=by
 intro qq
 induction qq with
 |zero=>
  exact⟨fun h=>nn h,fun h=>nn h⟩
 |succ qq ih=>
  obtain⟨zYo,zGQ⟩:=ih
  refine⟨?_,?_⟩
  intro p0 r h
  rw[e53]at h
  exact⟨tH ⟨func53,rfl⟩ 5 [(some 2,2,3)] [1,2] [0] [2,3,12,13,14] (oD (dT p0.sub)<|oD (dT ([]:zQ))<|oD (dT ([]:zQ)) o0) (zGQ h),⟨⟨tv,tv,⟨tv,dT _⟩,tv⟩,tv⟩,zA,⟨tv,tv,dT _,tv⟩,zA⟩
  intro p0 v14 uM r h
  rw[cV]at h
  obtain⟨h1,h⟩|⟨h1,h⟩:=zL h
  obtain⟨x2,h3,h⟩:=zB h
  obtain⟨r4,h5,h⟩:=zB h
  obtain⟨l6,h7,h⟩:=zB h
  exact fun j=>lH 2 [] [0,1] [1] [2,3,12,13,14] (oD (dT p0.sub)<|oD (dT l6)<|oD (dT ([]:zQ))<|oP 0 (sE h7 (by simp))<|oS 0 (xJ xM [r4])<|oC 1 [] (zYo h5)<|oCl 2<|oA 0 (wN (o:=.no) h3)<|oB 0 h1 o0) (zGQ h)
  cases h
  exact fun j=>lF 2 [] (oD (dT uM)<|oB 0 h1 o0)
theorem c53{qq p0 r}(h:e53 qq p0=some r):K53 p0 r Ct:=(zJo _).1 h
def e26(qq:Nat)(p0:Tm):Option Tm:=
 G3 qq p0>>=fun r1=>
 if r1 then
 e53 qq p0>>=fun r4=>
 some r4
 else
 some (Tm.mk 0 0 [])
theorem q26:Qf 26 f26:=⟨func26,rfl⟩
theorem c26{qq p0 r}(h:e26 qq p0=some r):Ct 26 [] [xF p0] (xF r) [] 0:=⟨by
 unfold e26 at h
 obtain⟨r1,h2,h⟩:=zB h
 obtain⟨h3,h⟩|⟨h3,h⟩:=zL h
 obtain⟨r4,h5,h⟩:=zB h
 obtain rfl:=sj h
 exact tF q26 1 [] (oD (dT r4.sub)<|oC 2 [] (c53 h5)<|oK 1 [] h3 (mO h2) o0)
 obtain rfl:=sj h
 exact tF q26 2 [] (oD (dT ([]:zQ))<|oK 1 [] h3 (mO h2) o0),⟨⟨tv,tv,⟨tv,dT _⟩,tv⟩,tv⟩,zA,⟨tv,tv,dT _,tv⟩,zA⟩
abbrev kAP (f:Func):Code:=aS (aS (sD (yO (yO (yO (wT f))))))
abbrev kCP (f:Func):Code:=yO (yO (yO (yO (wT f))))
abbrev s4P (j:Nat->Value) (ls:List L3) (r:List (Nat×AV)):List AV:=sp j 35 0 ((1,.mp 0 0)::(2,.mp 1 0)::(4,.sl (flat c3 ls) ls.length (.st 0 3))::(5,.mp 2 0)::r)
abbrev sSP (a b:List AV):yT:=⟨[(0,.cells a),(1,.cells [ai 0,ai 0,.sl [] 0 .nl]),(2,.cells b)],3,[0],1,[]⟩
abbrev lt3 (x:Tm) (q:Option Addr×Nat×Nat):List AV:=[.val (.int .i64 x.k),.val (.int .i64 x.n),.val (.slice q.1 q.2.1 q.2.2)]
abbrev U1 (G0:Gh):Nb:=⟨0,fun G=>G=G0⟩
abbrev U2 (x:Tm) (vs:List Value) (o:qA):List AV:=[ai x.k,ai x.n,.sl (vs.map .val) x.sub.length o]
theorem zYn(j:Nat->Value)(ls:List L3)(x:Tm)(u:List AV)(vs:List Value)(o:qA):qH prog sO 3000 (.run (aS (aS (sD (yO (yO (yO (wT f62)))))))) [] (s4P j ls []) (sSP u (U2 x vs o)) [.no,.bit false]=some (.fin (.exit 0),(s4P j ls [(7,.mp 2 0),(8,ai x.k),(9,ab false),(10,ab false),(11,.val undef),(12,.val undef),(13,.val undef),(14,.val undef),(15,ab false)]),(sSP u (U2 x vs o)),[],[.bit (x.k==5) false]):=by kernel_rfl
theorem zYm(j:Nat->Value)(ls:List L3)(x:Tm)(u:List AV)(vs:List Value)(o:qA):(lW prog sO (xN (sD (yO (yO (yO (yO (wT f62))))))) ((xN (sD (yO (yO (yO (yO (wT f62))))))).toList.take 1) 0 (s4P j ls [(7,.mp 2 0),(8,ai x.k),(9,ab false),(10,ab false),(11,.val undef),(12,.val undef),(13,.val undef),(14,.val undef),(15,ab false)]) (sSP u (U2 x vs o)) []).map Prod.snd=some ((s4P j ls [(7,.mp 2 0),(8,ai x.k),(9,ab false),(10,ab false),(11,.val undef),(12,.val undef),(13,.val undef),(14,.val undef),(15,ab false),(31,.sl (flat c3 ls) ls.length (.st 0 3))]),(sSP u (U2 x vs o)),[],[]):=by kernel_rfl
theorem zYl(j i:Nat->Value)(ls:List L3)(l:zQ)(x:Tm)(u:List AV)(vs:List Value)(o:qA):(lW prog sO (xN (sD (yO (yO (yO (yO (wT f62))))))) ((xN (sD (yO (yO (yO (yO (wT f62))))))).toList.drop 2) 2 (eset (tells [(4,.sl (flat zD l.reverse) l.length .no)] (mutEnv [1,2] i (s4P j ls [(7,.mp 2 0),(8,ai x.k),(9,ab false),(10,ab false),(11,.val undef),(12,.val undef),(13,.val undef),(14,.val undef),(15,ab false),(31,.sl (flat c3 ls) ls.length (.st 0 3))]) 0)) (some 32) (.tup [])) (qM [1,2] (sSP u (U2 x vs o))) []).map Prod.snd=some ((sp j 35 0 [(1,.val (i 1)),(2,.mp 1 0),(4,.sl (flat zD l.reverse) l.length .no),(5,.mp 2 0),(7,.mp 2 0),(8,ai x.k),(9,ab false),(10,ab false),(11,.val undef),(12,.val undef),(13,.val undef),(14,.val undef),(15,ab false),(31,.val (i 31)),(32,.tup [])]),⟨[(1,.cells [ai 0,ai 0,.sl [] 0 .nl]),(2,.cells (U2 x vs o))],3,[],0,[]⟩,[],[]):=by kernel_rfl
theorem zYk(j i:Nat->Value)(l:zQ)(x:Tm)(vs:List Value)(o:qA):dA prog sO 0 f62 3000 (.run (yO (yO (yO (yO (yO (wT f62))))))) [] (sp j 35 0 [(1,.val (i 1)),(2,.mp 1 0),(4,.sl (flat zD l.reverse) l.length .no),(5,.mp 2 0),(7,.mp 2 0),(8,ai x.k),(9,ab false),(10,ab false),(11,.val undef),(12,.val undef),(13,.val undef),(14,.val undef),(15,ab false),(31,.val (i 31)),(32,.tup [])]) ⟨[(1,.cells [ai 0,ai 0,.sl [] 0 .nl]),(2,.cells (U2 x vs o))],3,[],0,[]⟩ [.no,.no] [] [] [] false=some (.tup [.agg [ai x.k,ai x.n,.sl (vs.map .val) x.sub.length .no],.sl (flat zD l.reverse) l.length .no],[],[.data (vs.map .val),.data (flat zD l.reverse)]):=by kernel_rfl
theorem zYj(j:Nat->Value)(ls:List L3)(x:Tm)(u:List AV)(vs:List Value)(o:qA):qH prog sO 3000 (.run (aS (aS (sD (yO (yO (yO (wT f62)))))))) [] (s4P j ls []) (sSP u (U2 x vs o)) [.no,.bit true,.no,.no,.bit false]=some (.fin (.exit 0),(s4P j ls [(7,.mp 2 0),(8,ai x.k),(9,ab true),(10,ab true),(11,.mp 2 2),(12,.sl (vs.map .val) x.sub.length o),(13,ai (x.sub.length:Int)),(14,ab false),(15,ab false)]),(sSP u (U2 x vs o)),[],[.bit (x.k==5) true,.bit ((x.sub.length:Int)==2) false]):=by kernel_rfl
theorem zYi(j:Nat->Value)(ls:List L3)(x:Tm)(u:List AV)(vs:List Value)(o:qA):(lW prog sO (xN (sD (yO (yO (yO (yO (wT f62))))))) ((xN (sD (yO (yO (yO (yO (wT f62))))))).toList.take 1) 0 (s4P j ls [(7,.mp 2 0),(8,ai x.k),(9,ab true),(10,ab true),(11,.mp 2 2),(12,.sl (vs.map .val) x.sub.length o),(13,ai (x.sub.length:Int)),(14,ab false),(15,ab false)]) (sSP u (U2 x vs o)) []).map Prod.snd=some ((s4P j ls [(7,.mp 2 0),(8,ai x.k),(9,ab true),(10,ab true),(11,.mp 2 2),(12,.sl (vs.map .val) x.sub.length o),(13,ai (x.sub.length:Int)),(14,ab false),(15,ab false),(31,.sl (flat c3 ls) ls.length (.st 0 3))]),(sSP u (U2 x vs o)),[],[]):=by kernel_rfl
theorem zYh(j i:Nat->Value)(ls:List L3)(l:zQ)(x:Tm)(u:List AV)(vs:List Value)(o:qA):(lW prog sO (xN (sD (yO (yO (yO (yO (wT f62))))))) ((xN (sD (yO (yO (yO (yO (wT f62))))))).toList.drop 2) 2 (eset (tells [(4,.sl (flat zD l.reverse) l.length .no)] (mutEnv [1,2] i (s4P j ls [(7,.mp 2 0),(8,ai x.k),(9,ab true),(10,ab true),(11,.mp 2 2),(12,.sl (vs.map .val) x.sub.length o),(13,ai (x.sub.length:Int)),(14,ab false),(15,ab false),(31,.sl (flat c3 ls) ls.length (.st 0 3))]) 0)) (some 32) (.tup [])) (qM [1,2] (sSP u (U2 x vs o))) []).map Prod.snd=some ((sp j 35 0 [(1,.val (i 1)),(2,.mp 1 0),(4,.sl (flat zD l.reverse) l.length .no),(5,.mp 2 0),(7,.mp 2 0),(8,ai x.k),(9,ab true),(10,ab true),(11,.mp 2 2),(12,.val (i 12)),(13,ai (x.sub.length:Int)),(14,ab false),(15,ab false),(31,.val (i 31)),(32,.tup [])]),⟨[(1,.cells [ai 0,ai 0,.sl [] 0 .nl]),(2,.cells (U2 x vs o))],3,[],0,[]⟩,[],[]):=by kernel_rfl
theorem zYg(j i:Nat->Value)(l:zQ)(x:Tm)(vs:List Value)(o:qA):dA prog sO 0 f62 3000 (.run (yO (yO (yO (yO (yO (wT f62))))))) [] (sp j 35 0 [(1,.val (i 1)),(2,.mp 1 0),(4,.sl (flat zD l.reverse) l.length .no),(5,.mp 2 0),(7,.mp 2 0),(8,ai x.k),(9,ab true),(10,ab true),(11,.mp 2 2),(12,.val (i 12)),(13,ai (x.sub.length:Int)),(14,ab false),(15,ab false),(31,.val (i 31)),(32,.tup [])]) ⟨[(1,.cells [ai 0,ai 0,.sl [] 0 .nl]),(2,.cells (U2 x vs o))],3,[],0,[]⟩ [.no,.no] [] [] [] false=some (.tup [.agg [ai x.k,ai x.n,.sl (vs.map .val) x.sub.length .no],.sl (flat zD l.reverse) l.length .no],[],[.data (vs.map .val),.data (flat zD l.reverse)]):=by kernel_rfl
theorem spC(j:Nat->Value)(p0:Tm)(q0:Option Addr×Nat×Nat)(ls:List L3)(x:Tm)(vs:List Value)(o:qA):dA prog sO 0 f62 3000 (.run (aS (aS (sD (yO (yO (yO (wT f62)))))))) [.loop (aS (aS (sD (yO (yO (yO (wT f62))))))),.blk 0,.seq (yO (yO (yO (yO (wT f62)))))] (s4P j ls []) (sSP (lt3 p0 q0) (U2 x vs o)) [.no,.bit true,.no,.no,.bit true,.no,.bit true,.no,.no] [] [] [] false=some (.tup [.agg (lt3 p0 q0),.sl [] 0 .no],[],[.bit (x.k==5) true,.bit ((x.sub.length:Int)==2) true,.bit (decide ((ls.length:Int)≥8192)) true,.data []]):=by kernel_rfl
theorem spD(i j:Nat->Value)(k n:Int)(a b:Tm)(qa qb:Option Addr×Nat×Nat)(u0 u1 u2:Value)(ls ls2:List L3)(o:qA):gU prog sO 0 3000 (.run (aS (aS (sD (yO (yO (yO (wT f62)))))))) [.loop (aS (aS (sD (yO (yO (yO (wT f62))))))),.blk 0,.seq (yO (yO (yO (yO (wT f62)))))] (s4P j ls []) (sSP [.val u0,.val u1,.val u2] [ai k,ai n,.sl [.val (.int .i64 a.k),.val (.int .i64 a.n),.val (.slice qa.1 qa.2.1 qa.2.2),.val (.int .i64 b.k),.val (.int .i64 b.n),.val (.slice qb.1 qb.2.1 qb.2.2)] 2 o]) [.no,.bit true,.no,.no,.bit true,.no,.bit false,.no,.no,.no,.no,.app (flat c3 ls2) ls2.length 3 false,.no,.no,.no,.no] [] [0,1,2] [1] [1,2,4,5] i=some (aS (aS (sD (yO (yO (yO (wT f62)))))),[.blk 0,.seq (yO (yO (yO (yO (wT f62)))))],(s4P i ls2 []),(sSP [.val u0,.val u1,.val u2] [.val (.int .i64 a.k),.val (.int .i64 a.n),.val (.slice qa.1 qa.2.1 qa.2.2)]),[.bit (k==5) true,.bit ((2:Int)==2) true,.bit (decide ((ls.length:Int)≥8192)) false,.app 24 24 (flat c3 ls) [.val (.int .i64 b.k),.val (.int .i64 b.n),.val (.slice qb.1 qb.2.1 qb.2.2)] (flat c3 ls2) ls.length 1 ls2.length 3 false,.data [],.data (flat c3 ls2)]):=by kernel_rfl
theorem spE(i:Nat->Value)(u0 u1:Int)(u2:Option Addr×Nat×Nat):gU prog sO 0 3000 (.run (wT f62)) [] ([.agg [.val (.int .i64 u0),.val (.int .i64 u1),.val (.slice u2.1 u2.2.1 u2.2.2)]]++List.replicate (f62.ntmps-1) (.val undef)) (H2 []) [.no,.no] [(none,4,3)] [0,1,2] [0] [1,2,4,5] i=some (aS (aS (sD (yO (yO (yO (wT f62)))))),[.blk 0,.seq (yO (yO (yO (yO (wT f62)))))],(sp i 35 0 [(1,.mp 0 0),(2,.mp 1 0),(4,.sl [] 0 (.st 0 3)),(5,.mp 2 0)]),⟨[(0,.cells [.val (.int .i64 u0),.val (.int .i64 u1),.val (.slice u2.1 u2.2.1 u2.2.2)]),(1,.cells [ai 0,ai 0,.sl [] 0 .nl]),(2,.cells [.val (.int .i64 u0),.val (.int .i64 u1),.val (.slice u2.1 u2.2.1 u2.2.2)])],3,[0],1,[]⟩,[.data [],.data []]):=by kernel_rfl
def sv(x:Tm)(q:Option Addr×Nat×Nat):List Value:=[.int .i64 x.k,.int .i64 x.n,.slice q.1 q.2.1 q.2.2]
def sv3(x:Tm)(q:Option Addr×Nat×Nat):L3:=⟨.int .i64 x.k,.int .i64 x.n,.slice q.1 q.2.1 q.2.2,rfl,rfl,rfl⟩
theorem VL.split{G:Gh}{w:World}:∀(cs bs:List AV) (us:List Value),VL G w (cs++bs) us->∃u1 u2,us=u1++u2∧VL G w cs u1∧VL G w bs u2
 | [],bs,us,h=>⟨[],us,rfl,by simp only[VL],h⟩
 |a::cs,bs,[],h=>by simp only[List.cons_append,VL]at h
 |a::cs,bs,u::us,h=>by
  simp only[List.cons_append,VL]at h
  obtain⟨u1,u2,rfl,h1,h2⟩:=VL.split cs bs us h.2
  exact⟨u::u1,u2,rfl,by simp only[VL];exact⟨h.1,h1⟩,h2⟩
theorem zLA{G:Gh}{w:World}{x:Tm}{us:List Value}(h:VL G w (gW x) us):∃q,us=sv x q:=by
 unfold gW at h
 match us,h with
 | [],h=>simp only[VL]at h
 | [_],h=>simp only[VL,and_false]at h
 | [_,_],h=>simp only[VL,and_false]at h
 | [u0,u1,u2],h=>
  simp only[VL,and_true]at h
  obtain⟨h0,h1,h2⟩:=h
  simp only[V]at h0 h1 h2
  obtain⟨cap,_,⟨_,_,_,h,_⟩|⟨b,off,h,_⟩⟩:=h2
  ·obtain⟨p,h⟩:∃p,u2 = .slice p 0 0:=⟨_,h⟩
   exact⟨(p,0,0),by simp[sv,h0,h1,h]⟩
  ·exact⟨(some ⟨b,off,none⟩,x.sub.length,cap),by simp[sv,h0,h1,h]⟩
 |_::_::_::_::_,h=>simp only[VL,and_false]at h
theorem VC.lit{G G':Gh}{w w':World}(b:Nat)(hL:∀o,G.L b o->G'.L b o)(hc:∀o,w'.cell? ⟨b,o,none⟩=w.cell? ⟨b,o,none⟩):∀(vs:List Value) (off:Nat),VC G w (vs.map .val) b off->VC G' w' (vs.map .val) b off
 | [],_,_=>by simp only[List.map_nil,VC]
 |v::vs,off,h=>by
  simp only[List.map_cons,VC]at h ⊢
  obtain⟨h1,⟨u,h2,h3⟩,h4⟩:=h
  exact⟨hL _ h1,⟨u,(hc _).trans h2,by simpa only[V]using h3⟩,VC.lit b hL hc vs (off+1) h4⟩
theorem zWr{G:Gh}{w:World}{vs:List Value}{n:Nat}{o:qA}{u:Value}{es:List AV}(h:V G w (.sl (vs.map .val) n o) u)(he:VL G w es vs):V G w (.sl es n .no) u:=by
 simp only[V]at h ⊢
 obtain⟨cap,hc,⟨h1,h2,h3,h4,_⟩|⟨b,off,h1,h2,_⟩⟩:=h
 ·have hv:vs=[]:=by simpa using h1
  subst hv
  have:=VL.length _ _ he
  exact⟨cap,hc,.inl ⟨List.length_eq_zero_iff.1 this.symm,h2,h3,h4,trivial⟩⟩
 ·refine⟨cap,hc,.inr ⟨b,off,h1,?_,trivial⟩⟩
  obtain⟨us,q1,q2⟩:=VC.cells _ _ _ h2
  have:=VL.litEq _ _ q1
  subst this
  exact VC.of_cells es us b off he (fun i hi=>(VC.cell _ _ _ i (.val us[i]) h2 (by simp[hi])).1) q2
theorem zPQ{na:Nb}{G0:Gh}{w:World}(hB:kU na G0){x:Tm}{q:Option Addr×Nat×Nat}(h:VL G0 w (gW x) (sv x q)) :
  ∃(vs:List Value) (o:qA),VL G0 w (flat zD x.sub) vs∧VL G0 w (U2 x vs o) (sv x q)∧yF.lit (.cells (U2 x vs o)):=by
 unfold gW sv at h
 simp only[VL,and_true]at h
 obtain⟨_,_,h2⟩:=h
 have key:∃(vs:List Value) (o:qA),VL G0 w (flat zD x.sub) vs∧V G0 w (.sl (vs.map .val) x.sub.length o) (.slice q.1 q.2.1 q.2.2) ∧
   ∀(G G':Gh) (w w':World) (u:Value),G'.F=G.F->(∀b o,G.F b->G.L b o->G'.L b o)->(∀b o,G.F b->w'.cell? ⟨b,o,none⟩=w.cell? ⟨b,o,none⟩)->V G w (.sl (vs.map .val) x.sub.length o) u->V G' w' (.sl (vs.map .val) x.sub.length o) u:=by
  simp only[V]at h2
  obtain⟨cap,hc,⟨h1,h2,h3,h4,_⟩|⟨b,off,h1,h2,_⟩⟩:=h2
  ·refine⟨[],.no,by rw[h1];simp only[VL],?_,?_⟩
   ·simp only[V];exact⟨cap,hc,.inl ⟨rfl,h2,h3,h4,trivial⟩⟩
   ·intro G G' w w' u _ _ _ hu
    rw[h2]at hu ⊢
    exact V.none hu
  ·obtain⟨vs,q1,q2⟩:=VC.cells _ _ _ h2
   have hL:∀i,i<vs.length->G0.L b (off+i):=by
    intro i hi
    have hl:=VL.length _ _ q1
    exact(VC.cell _ _ _ i ((flat zD x.sub)[i]'(by omega)) h2 (by rw[List.getElem?_eq_getElem])).1
   have hcl:VC G0 w (vs.map .val) b off:=VC.of_cells _ vs b off (VL.lits vs) hL q2
   by_cases hs:vs=[]
   ·subst hs
    have hl:=VL.length _ _ q1
    have hfl:=tQ vV.len x.sub
    have h0:x.sub.length=0:=by simp at hl;omega
    refine⟨[],.no,q1,?_,?_⟩
    ·simp only[V];exact⟨cap,hc,.inr ⟨b,off,h1,hcl,trivial⟩⟩
    ·intro G G' w w' u _ _ _ hu
     rw[h0]at hu ⊢
     exact V.none hu
   ·have hF:G0.F b:=hB.LF b (off+0) (hL 0 (List.length_pos_iff.2 hs))
    refine⟨vs,.fr,q1,?_,?_⟩
    ·simp only[V];exact⟨cap,hc,.inr ⟨b,off,h1,hcl,hF⟩⟩
    ·intro G G' w w' u e1 e2 e3 hu
     simp only[V]at hu ⊢
     obtain⟨cap',hc',⟨p1,p2,p3,p4,_⟩|⟨b',off',p1,p2,p3⟩⟩:=hu
     ·exact⟨cap',hc',.inl ⟨p1,p2,p3,p4,trivial⟩⟩
     ·have p3':G.F b':=p3
      exact⟨cap',hc',.inr ⟨b',off',p1,VC.lit b' (fun o h=>e2 b' o p3' h) (fun o=>e3 b' o p3') vs off' p2,by show G'.F b';rw[e1];exact p3'⟩⟩
 obtain⟨vs,o,k1,k2,k3⟩:=key
 refine⟨vs,o,k1,?_,?_⟩
 ·simp only[sv,VL,V];simp only[V]at k2;exact⟨trivial,trivial,k2,trivial⟩
 ·intro G G' w w' us e1 e2 e3 hu
  match us,hu with
  | [],hu=>simp only[VL]at hu
  | [_],hu=>simp only[VL,and_false]at hu
  | [_,_],hu=>simp only[VL,and_false]at hu
  | [u0,u1,u2],hu=>
   simp only[VL,and_true]at hu ⊢
   exact⟨by simpa only[V]using hu.1,by simpa only[V]using hu.2.1,k3 G G' w w' u2 e1 e2 e3 hu.2.2⟩
  |_::_::_::_::_,hu=>simp only[VL,and_false]at hu
theorem zWq:yF.lit (.cells [ai 0,ai 0,.sl [] 0 .nl]):=by
 intro G G' w w' us e1 e2 e3 hu
 match us,hu with
 | [],hu=>simp only[VL]at hu
 | [_],hu=>simp only[VL,and_false]at hu
 | [_,_],hu=>simp only[VL,and_false]at hu
 | [u0,u1,u2],hu=>
  simp only[VL,and_true]at hu ⊢
  refine⟨by simpa only[V]using hu.1,by simpa only[V]using hu.2.1,?_⟩
  have:=hu.2.2
  simp only[V]at this ⊢
  obtain⟨cap,h1,⟨_,_,h2,h3,h4⟩|⟨b,off,h2,_,h3⟩⟩:=this
  ·exact⟨cap,h1,.inl ⟨trivial,trivial,h2,h3,h4⟩⟩
  ·exact h3.elim
 |_::_::_::_::_,hu=>simp only[VL,and_false]at hu
def zTh(G0:Gh)(res:AV)(r:Tm×zQ):Prop:=∀W G' W',wK G0 W G' W'->wZ G'.F G'.w0 W'->∀u,V G' W' res u->V G' W' (.tup [xF r.1,.sl (flat zD r.2) r.2.length .no]) u
def kE(p0:Tm):Tm->zQ->Option (Tm×zQ)
 | .mk k n [a,b],l=>
  if (k==5)=true then
   if decide ((l.length:Int)≥8192)=true then some (p0,[])else(xQ 40 l [b])>>=fun l2=>kE p0 a l2
  else some (.mk k n [a,b],l.reverse)
 |x,l=>some (x,l.reverse)
def g62(p0:Tm):Option (Tm×zQ):=kE p0 p0 []
theorem zLB:∀vs:List Value,AV.DataL (vs.map .val)
 | []=>trivial
 |_::vs=>⟨trivial,zLB vs⟩
theorem VL.rev{G:Gh}{w:World}:∀(l:zQ) (ls:List L3),VL G w (flat zD l) (rJ ls)->ls.length=l.length->VL G w (flat zD l.reverse) (rJ ls.reverse)
 | [],[],_,_=>by simp[flat,rJ,VL]
 |x::l,y::ls,h,hl=>by
  simp only[flat,rJ,List.flatMap_cons]at h
  obtain⟨u1,u2,e,h1,h2⟩:=VL.split _ _ _ h
  have n1:=VL.length _ _ h1
  rw[vV.len]at n1
  obtain⟨rfl,rfl⟩:=List.append_inj e (by rw[n1];rfl)
  have ih:=VL.rev l ls h2 (by simpa using hl)
  simp only[List.reverse_cons,flat,rJ,List.flatMap_append,List.flatMap_cons,List.flatMap_nil,List.append_nil]
  exact VL.append _ _ _ _ ih h1
 | [],_::_,_,h=>by simp at h
 |_::_,[],_,h=>by simp at h
theorem m9{na:Nb}{G0:Gh}(hB:kU na G0){x:Tm}{l:zQ}{vs:List Value}(v1:VL G0 G0.w0 (flat zD x.sub) vs)(hn:na.n=0:=by first|rfl|assumption):zTh G0 (.tup [.agg [ai x.k,ai x.n,.sl (vs.map .val) x.sub.length .no],.sl (flat zD l.reverse) l.length .no]) (x,l.reverse):=by
 intro W G' W' hE hK u hu
 have v:=VL.later hB hE hK v1
 simp only[V,VL]at hu
 obtain⟨us,rfl,hus⟩:=hu
 match us,hus with
 | [],h=>simp only[VL]at h
 | [_],h=>simp only[VL,and_false]at h
 | [ua,ub],h=>
  simp only[VL,and_true]at h
  obtain⟨h1,h2⟩:=h
  simp only[V]at h1
  obtain⟨ws,rfl,hws⟩:=h1
  match ws,hws with
  | [],h=>simp only[VL]at h
  | [_],h=>simp only[VL,and_false]at h
  | [_,_],h=>simp only[VL,and_false]at h
  | [w0,w1,w2],h=>
   simp only[VL,and_true]at h
   obtain⟨g0,g1,g2⟩:=h
   have g3:=zWr g2 v
   simp only[V]
   refine⟨[.agg #[w0,w1,w2],ub],rfl,?_⟩
   simp only[VL,and_true]
   refine⟨?_,by simpa using h2⟩
   simp only[xF,V]
   exact⟨[w0,w1,w2],rfl,by simp only[gW,VL,and_true];exact⟨g0,g1,g3⟩⟩
  |_::_::_::_::_,h=>simp only[VL,and_false]at h
 |_::_::_::_,h=>simp only[VL,and_false]at h
theorem zJn{na:Nb}{G0:Gh}(hB:kU na G0){x:Tm}{q:Option Addr×Nat×Nat}(h0:VL G0 G0.w0 (gW x) (sv x q))(hn:na.n=0:=by first|rfl|assumption):zTh G0 (.tup [.agg (lt3 x q),.sl [] 0 .no]) (x,[]):=by
 intro W G' W' hE hK u hu
 have v:=VL.later hB hE hK h0
 simp only[V,VL]at hu
 obtain⟨us,rfl,hus⟩:=hu
 match us,hus with
 | [],h=>simp only[VL]at h
 | [_],h=>simp only[VL,and_false]at h
 | [ua,ub],h=>
  simp only[VL,and_true]at h
  obtain⟨h1,h2⟩:=h
  simp only[V]at h1
  obtain⟨ws,rfl,hws⟩:=h1
  have hw:ws=sv x q:=VL.litEq (sv x q) ws hws
  subst hw
  simp only[V]
  refine⟨[.agg (sv x q).toArray,ub],rfl,?_⟩
  simp only[VL,and_true]
  refine⟨?_,by simpa[flat]using h2⟩
  simp only[xF,V]
  exact⟨sv x q,rfl,v⟩
 |_::_::_::_,h=>simp only[VL,and_false]at h
theorem zYf{G0:Gh}{p0 x:Tm}{q0:Option Addr×Nat×Nat}{l:zQ}{ls:List L3}{vs:List Value}{o:qA}(j:Nat->Value)(hlit:yF.lit (.cells (U2 x vs o)))(hl:VL G0 G0.w0 (flat zD l) (rJ ls))(hlen:ls.length=l.length)(h8:l.length≤8192) :
  Dv prog (U1 G0) (yO (yO (yO (yO (wT f62))))) (s4P j ls [(7,.mp 2 0),(8,ai x.k),(9,ab false),(10,ab false),(11,.val undef),(12,.val undef),(13,.val undef),(14,.val undef),(15,ab false)]) (sSP (lt3 p0 q0) (U2 x vs o)) (nQ (U1 G0) f62 (.tup [.agg [ai x.k,ai x.n,.sl (vs.map .val) x.sub.length .no],.sl (flat zD l.reverse) l.length .no]) [] 0):=by
 have k1:knd (yO (yO (yO (yO (wT f62)))))=1:=by kernel_rfl
 have k3:gY (sD (yO (yO (yO (yO (wT f62))))))=true:=by kernel_rfl
 have k4:S5 (xN (sD (yO (yO (yO (yO (wT f62)))))))[1]? = some (some 32,87,#[.tmp 31]):=by kernel_rfl
 have k5:(f87.name == "runtime.NumGoroutine")=false:=by kernel_rfl
 have k6:f87.body.isNone=false:=by kernel_rfl
 refine Dv.seqP k1 ?_
 obtain⟨id,k7⟩:=zIX k3
 rw[k7]
 refine Dv.mut xW (na:=(U1 G0)) rfl 1 [1,2] [(4,.sl (flat zD l.reverse) l.length .no)] (.tup []) (zYm j ls x _ vs o) zW.nil k4 func87 k5 k6 ?_ ?_ (fun i=>zYl j i ls l x _ vs o) zW.nil ?_
 ·intro i X hm hX
  have:i=1∨i=2:=by simpa using vG.1 hm
  rcases this with rfl|rfl
  ·cases hX;exact zWq
  ·cases hX;exact hlit
 ·intro G1 W hB' G w hE hR u hu
  have e:=hB'.κ
  subst e
  refine(zCg (l:=ls) hR (by rfl) (by omega) hu).mono ?_
  rintro e w' ⟨v,b,S,e1,e2,e3,e4,e5,e6,e7⟩
  refine⟨v,b,S,e1,e2,e3,e4,e5,fun G' hE' hK' hS=>⟨by subst e6;simp only[V];exact⟨[],rfl,by simp only[VL]⟩,?_⟩⟩
  intro p hp u' hu'
  have hp':=List.mem_singleton.1 hp
  subst hp'
  have:=e7 G' hS _ (VL.later hB' hE' hK' (VL.rev l ls hl hlen)) u' hu'
  rw[hlen]at this
  exact this
 ·intro i
  exact kV (na:=(U1 G0)) xW mixed (zYk j i l x vs o) (zW.cons (qL (zLB vs)) (zW.cons (qL (dT _)) zW.nil)) (by decide)
theorem zYe{G0:Gh}{p0 x:Tm}{q0:Option Addr×Nat×Nat}{l:zQ}{ls:List L3}{vs:List Value}{o:qA}(j:Nat->Value)(hlit:yF.lit (.cells (U2 x vs o)))(hl:VL G0 G0.w0 (flat zD l) (rJ ls))(hlen:ls.length=l.length)(h8:l.length≤8192) :
  Dv prog (U1 G0) (yO (yO (yO (yO (wT f62))))) (s4P j ls [(7,.mp 2 0),(8,ai x.k),(9,ab true),(10,ab true),(11,.mp 2 2),(12,.sl (vs.map .val) x.sub.length o),(13,ai (x.sub.length:Int)),(14,ab false),(15,ab false)]) (sSP (lt3 p0 q0) (U2 x vs o)) (nQ (U1 G0) f62 (.tup [.agg [ai x.k,ai x.n,.sl (vs.map .val) x.sub.length .no],.sl (flat zD l.reverse) l.length .no]) [] 0):=by
 have k1:knd (yO (yO (yO (yO (wT f62)))))=1:=by kernel_rfl
 have k3:gY (sD (yO (yO (yO (yO (wT f62))))))=true:=by kernel_rfl
 have k4:S5 (xN (sD (yO (yO (yO (yO (wT f62)))))))[1]? = some (some 32,87,#[.tmp 31]):=by kernel_rfl
 have k5:(f87.name == "runtime.NumGoroutine")=false:=by kernel_rfl
 have k6:f87.body.isNone=false:=by kernel_rfl
 refine Dv.seqP k1 ?_
 obtain⟨id,k7⟩:=zIX k3
 rw[k7]
 refine Dv.mut xW (na:=(U1 G0)) rfl 1 [1,2] [(4,.sl (flat zD l.reverse) l.length .no)] (.tup []) (zYi j ls x _ vs o) zW.nil k4 func87 k5 k6 ?_ ?_ (fun i=>zYh j i ls l x _ vs o) zW.nil ?_
 ·intro i X hm hX
  have:i=1∨i=2:=by simpa using vG.1 hm
  rcases this with rfl|rfl
  ·cases hX;exact zWq
  ·cases hX;exact hlit
 ·intro G1 W hB' G w hE hR u hu
  have e:=hB'.κ
  subst e
  refine(zCg (l:=ls) hR (by rfl) (by omega) hu).mono ?_
  rintro e w' ⟨v,b,S,e1,e2,e3,e4,e5,e6,e7⟩
  refine⟨v,b,S,e1,e2,e3,e4,e5,fun G' hE' hK' hS=>⟨by subst e6;simp only[V];exact⟨[],rfl,by simp only[VL]⟩,?_⟩⟩
  intro p hp u' hu'
  have hp':=List.mem_singleton.1 hp
  subst hp'
  have:=e7 G' hS _ (VL.later hB' hE' hK' (VL.rev l ls hl hlen)) u' hu'
  rw[hlen]at this
  exact this
 ·intro i
  exact kV (na:=(U1 G0)) xW mixed (zYg j i l x vs o) (zW.cons (qL (zLB vs)) (zW.cons (qL (dT _)) zW.nil)) (by decide)
theorem zWp{l m r:List L3}(h:xQ 40 l m=some r)(hm:m.length≠0):Ob.ok prog (.app 24 24 (flat c3 l) (flat c3 m) (flat c3 r) l.length m.length r.length 3 false):=oH zEP Tryz.underlying24 oY rfl rfl rfl (by decide) rfl (by decide) h hm
theorem l8{p0 x:Tm}{l:zQ}{r:Tm×zQ}(h:kE p0 x l=some r)(hx:¬((x.k==5)=true∧x.sub.length=2)):r=(x,l.reverse):=by
 obtain⟨k,n,sub⟩:=x
 unfold kE at h
 split at h
 ·rename_i k' n' a b e
  cases e
  split at h
  ·rename_i hk
   exact(hx ⟨hk,rfl⟩).elim
  ·cases h;rfl
 ·cases h;rfl
theorem zEW{p0:Tm}{q0:Option Addr×Nat×Nat}{G0:Gh}(hB:kU (U1 G0) G0)(h0:VL G0 G0.w0 (gW p0) (sv p0 q0)):∀(N:Nat) (x:Tm) (l:zQ) (r:Tm×zQ) (hN:SizeOf.sizeOf x≤N) (h:kE p0 x l=some r) (h8:l.length≤8192) (q:Option Addr×Nat×Nat) (ls:List L3)
  (hx:VL G0 G0.w0 (gW x) (sv x q)) (hl:VL G0 G0.w0 (flat zD l) (rJ ls)) (hlen:ls.length=l.length),∃res,zTh G0 res r∧∀j:Nat->Value,dL (U1 G0) (aS (aS (sD (yO (yO (yO (wT f62))))))) (s4P j ls []) (sSP (lt3 p0 q0) (lt3 x q)) (fQ (U1 G0) (nQ (U1 G0) f62 res [] 0) [.blk 0,.seq (yO (yO (yO (yO (wT f62)))))]):=by
 intro N
 induction N with
 |zero=>
  intro x l r hN
  obtain⟨k,n,sub⟩:=x
  simp at hN
 |succ N spine_ih=>
 intro x l r hN h h8 q ls hx hl hlen
 obtain⟨vs,o,v1,v2,v3⟩:=zPQ hB hx
 have hopen:∀ {res:AV} (j:Nat->Value),dL (U1 G0) (aS (aS (sD (yO (yO (yO (wT f62))))))) (s4P j ls []) (sSP (lt3 p0 q0) (U2 x vs o)) (fQ (U1 G0) (nQ (U1 G0) f62 res [] 0) [.blk 0,.seq (yO (yO (yO (yO (wT f62)))))])->dL (U1 G0) (aS (aS (sD (yO (yO (yO (wT f62))))))) (s4P j ls []) (sSP (lt3 p0 q0) (lt3 x q)) (fQ (U1 G0) (nQ (U1 G0) f62 res [] 0) [.blk 0,.seq (yO (yO (yO (yO (wT f62)))))]):=by
  intro res j hd
  refine Dl.openB (b:=2) (cs:=(lt3 x q)) (cs':=(U2 x vs o)) rfl (fun G1 W hB' G w hE hK us hus=>?_) hd
  have e:=hB'.κ
  subst e
  have hu:us=sv x q:=VL.litEq (sv x q) us hus
  subst hu
  exact VL.later hB' hE hK v2
 by_cases hk:(x.k==5)=true
 ·by_cases h2:x.sub.length=2
  ·obtain⟨k,n,sub⟩:=x
   match sub,h2 with
   | [a,b],_=>
   rw[kE]at h
   replace h:=ifT hk h
   rcases H9 (decide ((l.length:Int)≥8192))with h3|h3
   ·replace h:=ifT h3 h
    cases h
    exact⟨_,zJn hB h0,fun j=>hopen j (Dl.toFin (na:=(U1 G0)) xW mixed 3000 _ _ _ _ _ (spC j p0 q0 ls (.mk k n [a,b]) vs o) (zW.cons (lY hk) (zW.cons (lY rfl) (zW.cons (lY (by rw[hlen];exact h3)) (zW.cons (qL trivial) zW.nil)))) (by decide))⟩
   ·replace h:=ifF h3 h
    obtain⟨l2,hg,h⟩:=zB h
    obtain⟨hg1,rfl⟩:=qE hg
    have w1:VL G0 G0.w0 (zD a++(zD b++[])) vs:=v1
    obtain⟨ua,u2,rfl,wa,w2⟩:=VL.split _ _ _ w1
    obtain⟨ub,u3,rfl,wb,w3⟩:=VL.split _ _ _ w2
    have e3:u3=[]:=by
     have:=VL.length _ _ w3
     exact List.length_eq_zero_iff.1 this
    subst e3
    rw[xM]at wa wb
    obtain⟨qa,rfl⟩:=zLA wa
    obtain⟨qb,rfl⟩:=zLA wb
    have h3':List.length l<8192:=by
     have:=of_decide_eq_false h3
     omega
    have hl2:VL G0 G0.w0 (flat zD (l++[b])) (rJ (ls++[sv3 b qb])):=by
     simp only[flat,rJ,List.flatMap_append,List.flatMap_cons,List.flatMap_nil,List.append_nil]
     refine VL.append _ _ _ _ hl ?_
     rw[xM];exact wb
    have hga:xQ 40 ls [sv3 b qb]=some (ls++[sv3 b qb]):=by
     unfold xQ
     rw[if_pos]
     simp only[List.length_cons,List.length_nil]at hg1 ⊢
     rw[hlen];exact hg1
    obtain⟨res,hgood,hdl⟩:=spine_ih a (l++[b]) r (by simp at hN;omega) h (by simp;omega) qa (ls++[sv3 b qb]) wa hl2 (by simp[hlen])
    refine⟨res,hgood,fun j=>hopen j (Dl.toHead (na:=(U1 G0)) xW mixed 3000 _ _ _ _ _ (fun i=>spD i j k n a b qa qb _ _ _ ls (ls++[sv3 b qb]) o) ?_ fun i=>hdl i)⟩
    exact zW.cons (lY hk) (zW.cons (lY rfl) (zW.cons (lY (by rw[hlen];exact h3)) (zW.cons (zWp (m:=[sv3 b qb]) hga (by simp)) (zW.cons (qL trivial) (zW.cons (qL (uR zEP.data _)) zW.nil)))))
  ·have hr:=l8 h (fun e=>h2 e.2)
   subst hr
   refine⟨.tup [.agg [ai x.k,ai x.n,.sl (vs.map .val) x.sub.length .no],.sl (flat zD l.reverse) l.length .no],m9 hB v1,fun j=>hopen j (Dl.step ?_)⟩
   have hx1:=zYe (G0:=G0) (p0:=p0) (q0:=q0) j v3 hl hlen h8
   refine pU (Q:=_) xW mixed 3000 (.run (aS (aS (sD (yO (yO (yO (wT f62)))))))) [] _ _ _ _ _ _ _ _ (zYj j ls x _ vs o) (zW.cons (lY hk) (zW.cons (lY (by simp;omega)) zW.nil)) ?_
   simp only[KQ,zEC,vL,G9,if_true]
   exact hx1
 ·have hr:=l8 h (fun e=>hk e.1)
  subst hr
  ·refine⟨.tup [.agg [ai x.k,ai x.n,.sl (vs.map .val) x.sub.length .no],.sl (flat zD l.reverse) l.length .no],m9 hB v1,fun j=>hopen j (Dl.step ?_)⟩
   have hx1:=zYf (G0:=G0) (p0:=p0) (q0:=q0) j v3 hl hlen h8
   refine pU (Q:=_) xW mixed 3000 (.run (aS (aS (sD (yO (yO (yO (wT f62)))))))) [] _ _ _ _ _ _ _ _ (zYn j ls x _ vs o) (zW.cons (lY (by simpa using hk)) zW.nil) ?_
   simp only[KQ,zEC,vL,G9,if_true]
   exact hx1
theorem zYd{p0:Tm}{r:Tm×zQ}(h:g62 p0=some r):CT prog 62 [] [xF p0] (.tup [xF r.1,.sl (flat zD r.2) r.2.length .no]) [] 0:=by
 refine⟨?_,⟨⟨trivial,trivial,⟨trivial,dT _⟩,trivial⟩,trivial⟩,(fun _ h=>nomatch h),⟨⟨trivial,trivial,dT _,trivial⟩,dT _,trivial⟩,(fun _ h=>nomatch h)⟩
 intro G0 W cargs hB hR hv
 cases hc:cargs.toList with
 |nil=>rw[hc]at hv;simp only[VL]at hv
 |cons u us=>
  rw[hc]at hv
  simp only[VL]at hv
  obtain⟨hu,hus⟩:=hv
  have hus':us=[]:=by
   have:=VL.length _ _ hus
   exact List.length_eq_zero_iff.1 this
  subst hus'
  simp only[xF,V]at hu
  obtain⟨ws,rfl,hws⟩:=hu
  obtain⟨q0,rfl⟩:=zLA hws
  have hBK:kU (U1 G0) G0:=⟨hB.ρ,hB.τ,hB.LF,rfl⟩
  have h0:=VL.back hB hR hws
  obtain⟨res,hgood,hdl⟩:=zEW hBK h0 _ p0 [] r (Nat.le_refl _) h (by simp) q0 [] h0 (by simp[flat,rJ,VL]) rfl
  have hv2:VL G0 W [.agg (lt3 p0 q0)] cargs.toList:=by
   rw[hc]
   simp only[VL,V,and_true]
   exact⟨sv p0 q0,rfl,VL.lits (sv p0 q0)⟩
  have hb:=zPF (na:=(U1 G0)) (res:=res) (H1:=[]) (nst:=0) rfl func62 (by kernel_rfl) (S0 (na:=(U1 G0)) (m:=.run (wT f62)) (fs:=[]) xW mixed (fun i=>spE i p0.k p0.n q0) (zW.cons (qL trivial) (zW.cons (qL trivial) zW.nil)) fun i=>hdl i) hBK hR hv2
  refine hb.mono ?_
  rintro e W' ⟨u,G',s',rfl,hE,hR',hu,h1,h2⟩
  exact⟨u,G',s',rfl,hE,hR',hgood W G' W' hE hR'.below u hu,h1,h2⟩
def e62(_qq:Nat)(p0:Tm):Option (Tm×zQ):=g62 p0
theorem c62{qq:Nat}{p0:Tm}{r:Tm×zQ}(h:e62 qq p0=some r):CT prog 62 [] [xF p0] (.tup [xF r.1,.sl (flat zD r.2) r.2.length .no]) [] 0:=zYd h
def zCQ(qq:Nat)(p0 p1:Int)(p2:zQ):Option Tm:=
 some (Tm.mk p0 p1 p2)
theorem zJl{qq p0 p1 p2 r}(h:zCQ qq p0 p1 p2=some r):Ct 116 [] [ai p0,ai p1,zO zD p2 .no] (xF r) [] 0:=⟨by
 unfold zCQ at h
 cases h
 exact tF ⟨func116,rfl⟩ 1 [] (oD (dT p2) o0),⟨tv,tv,⟨tv,dT _⟩,tv⟩,zA,⟨tv,tv,dT _,tv⟩,zA⟩
def e94(qq:Nat)(p0 p1:Tm):Option Tm:=
 zCQ qq 5 0 [p0,p1]>>=fun r1=>
 some r1
theorem c94{qq p0 p1 r}(h:e94 qq p0 p1=some r):Ct 94 [] [xF p0,xF p1] (xF r) [] 0:=⟨by
 unfold e94 at h
 obtain⟨r1,h2,h⟩:=zB h
 obtain rfl:=sj h
 exact tF ⟨func94,rfl⟩ 1 [] (oD (dT r1.sub)<|oC 0 [] (zJl h2)<|oS 2 (xJ xM [p0,p1]) o0),⟨⟨tv,tv,⟨tv,dT _⟩,tv⟩,⟨tv,tv,⟨tv,dT _⟩,tv⟩,tv⟩,zA,⟨tv,tv,dT _,tv⟩,zA⟩
def cW:Nat->zQ->Int->Int->Int->zQ->Option Tm
 |0,_,_,_,_,_=>none
 |qq+1,p1,v9,yB,vO,xC=>
 if decide (v9<(p1.length:Int))then
 zR p1 v9>>=fun x2=>
 e94 qq (Tm.mk yB vO xC) x2>>=fun r4=>
 cW qq p1 (xL (v9+1)) r4.k r4.n r4.sub
 else
 some (Tm.mk yB vO xC)
def e63(qq:Nat)(p0:Tm)(p1:zQ):Option Tm:=
 cW qq p1 0 p0.k p0.n p0.sub
theorem zTg:∀qq:Nat,(∀ {p1 v9 yB vO xC r},cW qq p1 v9 yB vO xC=some r->(∀j,dL 0 (pt 949 f63) (sp j 18 0 [(2,.mp 0 0),(4,.mp 1 0),(7,zO zD p1 .no),(8,ai (p1.length:Int)),(9,ai v9)]) (⟨[(0,.cells [ai yB,ai vO,zO zD xC .no]),(1,.cells [ai 0,ai 0,zO zD ([]:zQ) .nl])],2,[],0,[]⟩) (fQ 0 (nQ 0 f63 (xF r) [] 0) [.blk 0,.seq (pt 15 f63)]))):=by
 intro qq
 induction qq with
 |zero=>
  exact fun h=>nn h
 |succ qq ih=>
  intro p1 v9 yB vO xC r h
  rw[cW]at h
  obtain⟨h1,h⟩|⟨h1,h⟩:=zL h
  obtain⟨x2,h3,h⟩:=zB h
  obtain⟨r4,h5,h⟩:=zB h
  exact fun j=>lH 2 [] [0,1] [] [2,4,7,8,9] (oD (dT p1)<|oD (dT ([]:zQ))<|oD (dT r4.sub)<|oC 4 [] (c94 h5)<|oA 0 (wN (o:=.no) h3)<|oB 0 h1 o0) (ih h)
  cases h
  exact fun j=>lF 2 [] (oD (dT xC)<|oB 0 h1 o0)
theorem c63{qq p0 p1 r}(h:e63 qq p0 p1=some r):Ct 63 [] [xF p0,zO zD p1 .no] (xF r) [] 0:=⟨by
 unfold e63 at h
 exact tH ⟨func63,rfl⟩ 1 [] [0,1] [] [2,4,7,8,9] (oD (dT p1)<|oD (dT ([]:zQ))<|oD (dT p0.sub) o0) (zTg _ h),⟨⟨tv,tv,⟨tv,dT _⟩,tv⟩,⟨tv,dT _⟩,tv⟩,zA,⟨tv,tv,dT _,tv⟩,zA⟩
theorem uQ(t:Tm):Tm.mk t.k t.n t.sub=t:=by cases t;rfl
theorem U3{α:Type}{l:List α}{v:Nat}{x:α}{r:List α}(h:l.drop v=x::r):l.take (v+1)=l.take v++[x]:=by
 have:l[v]? = some x:=by
  have:=congrArg (fun z=>z[0]?) h
  simpa using this
 rw[List.take_add_one,this];rfl
mutual
theorem j0:∀(t:Tm),xG t=true->zG (fun q=>e53 q t) t
 | .mk k n l,hg=>by
  refine zG.succ ?_
  simp only[e53]
  have hh:=xV hg
  exact U4 l (.mk k n l) 0 [] rfl hh.2 (by have:=(cT hh.1).2.2.2.2;exact this) rfl
theorem U4:∀(l:List Tm) (p:Tm) (v:Nat) (acc:List Tm),p.sub.drop v=l->qF l=true->p.sub.length≤2->acc=p.sub.take v->zG (fun q=>cV q p (v:Int) acc) p
 | [],p,v,acc,hd,hg,hl,ha=>by
  refine zG.succ ?_
  simp only[cV]
  refine zG.ifF (drop_nil hd) (zG.ret.eq ?_)
  have:p.sub.length≤v:=List.drop_eq_nil_iff.1 hd
  rw[ha,List.take_of_length_le this,uQ]
 |t::l,p,v,acc,hd,hg,hl,ha=>by
  have hlt:=yY hd
  have hc:=wC hg
  refine zG.succ ?_
  simp only[cV]
  refine zG.ifT (yK hd) (zG.pure (yD hd) ((j0 t hc.1).bind (zG.pure (xB (by rw[ha];simp<;>omega)) ?_)))
  rw[yE v (by omega)]
  exact U4 l p (v+1) _ (zZ hd) hc.2 hl (by rw[ha,U3 hd])
end
def iZ(t:Tm):Tm:=if zH t=true then t else .mk 0 0 []
theorem nJ(t:Tm)(ho:t.Ok):zG (fun q=>e26 q t) (iZ t):=by
 simp only[e26]
 refine(xR t ho).bind ?_
 unfold iZ
 by_cases h:zH t=true
 ·rw[if_pos h];exact zG.ifT h ((j0 t (zI h).2.2).bind zG.ret)
 ·rw[if_neg h];exact zG.ifF (by simpa using h) zG.ret
def zN:Tm->Tm
 | .mk k n [a,b]=>if k=5 then zN a else .mk k n [a,b]
 |x=>x
def yG:Tm->List Tm
 | .mk k _ [a,b]=>if k=5 then yG a++[b]else []
 |_=>[]
theorem zLE{l:List Tm}(h:l.length=2):∃a b,l=[a,b]:=by
 rcases l with _|⟨a,_|⟨b,_|⟨c,l⟩⟩⟩<;>simp at h
 exact⟨a,b,rfl⟩
theorem qO(n:Int)(a b:Tm):zN (.mk 5 n [a,b])=zN a:=by rw[zN];simp
theorem rB(n:Int)(a b:Tm):yG (.mk 5 n [a,b])=yG a++[b]:=by rw[yG];simp
theorem vH{t:Tm}(h:t.k≠5):zN t=t:=by
 unfold zN
 split
 ·exact if_neg h
 ·rfl
theorem tL{t:Tm}(h:t.k≠5):yG t=[]:=by
 unfold yG
 split
 ·exact if_neg h
 ·rfl
theorem jG{P:Tm->Prop}(h0:∀t,xG t=true->t.k≠5->P t)(h1:∀n a b,xG (.mk 5 n [a,b])=true->xG a=true->xG b=true->P a->P (.mk 5 n [a,b])):∀t:Tm,xG t=true->P t:=by
 intro t
 induction hn:t.nodes using Nat.strongRecOn generalizing t with
 |ind m ih=>
  intro hg
  by_cases h:t.k=5
  ·obtain⟨k,n,l⟩:=t
   have hh:=xV hg
   have hs:=wQ hh.1
   simp only[Tm.k]at h
   subst h
   obtain⟨a,b,rfl⟩:=zLE (hs.2.2.2.2.2.1 (.inr (.inr rfl))).1
   have hc:=wC hh.2
   have hc2:=wC hc.2
   refine h1 n a b hg hc.1 hc2.1 (ih a.nodes ?_ a rfl hc.1)
   rw[Tm.nodes,yN]at hn;omega
  ·exact h0 t hg h
theorem zLF(p0:Tm):∀t:Tm,xG t=true->∀l:List Tm,l.length+t.nodes≤8192->kE p0 t l=some (zN t,yG t++l.reverse):=by
 refine jG ?_ ?_
 ·intro t hg hk l hl
  rw[vH hk,tL hk]
  obtain⟨k,n,ls⟩:=t
  replace hk:¬k=5:=hk
  rcases ls with _|⟨a,_|⟨b,_|⟨c,ls⟩⟩⟩<;>unfold kE<;>simp[hk]
 ·intro n a b hg ha hb ih l hl
  rw[Tm.nodes,yN,yN,yN]at hl
  rw[qO,rB]
  unfold kE
  rw[zPJ (show ((5:Int)==5)=true from rfl),zLo (by simp<;>omega),xB (by simp<;>omega)]
  show kE p0 a (l++[b])=_
  rw[ih (l++[b]) (by simp<;>omega)]
  simp
theorem oI(t:Tm)(hs:zH t=true):zG (fun q=>e62 q t) (zN t,yG t):=by
 refine zG.mk fun q=>?_
 have h:=zI hs
 show kE t t []=_
 rw[zLF t t h.2.2 [] (by simpa using h.1)];simp
theorem mW:∀t:Tm,xG t=true->xG (zN t)=true∧(zN t).k≠5∧(zN t).nodes≤t.nodes∧(zN t).high≤t.high∧∀x∈yG t,xG x=true∧x.nodes<t.nodes∧x.high<t.high:=by
 refine jG ?_ ?_
 ·intro t hg hk
  rw[vH hk,tL hk]
  exact⟨hg,hk,Nat.le_refl _,Nat.le_refl _,fun x hx=>by cases hx⟩
 ·intro n a b hg ha hb ih
  rw[qO,rB]
  simp only[Tm.nodes,yN,Tm.high,pI]
  refine⟨ih.1,ih.2.1,by omega,by omega,fun x hx=>?_⟩
  rcases List.mem_append.1 hx with hx|hx
  ·have:=ih.2.2.2.2 x hx;exact⟨this.1,by omega,by omega⟩
  ·simp at hx;subst hx;exact⟨hb,by omega,by omega⟩
theorem mE{t:Tm}(h1:t.nodes≤8192)(h2:t.high≤128)(h3:xG t=true):zH t=true:=by
 unfold zH;simp[h1,h2,h3]
theorem yW{t x:Tm}(h:zH t=true)(hx:x∈yG t):zH x=true:=by
 have hs:=zI h
 have:=(mW t hs.2.2).2.2.2.2 x hx
 exact mE (by omega) (by omega) this.1
theorem wG{t:Tm}(h:zH t=true):zH (zN t)=true:=by
 have hs:=zI h
 have:=mW t hs.2.2
 exact mE (by omega) (by omega) this.1
theorem sB:∀t:Tm,xG t=true->(yG t).length<t.nodes:=by
 refine jG ?_ ?_
 ·intro t hg hk
  rw[tL hk];have:=uS t;simp;omega
 ·intro n a b hg ha hb ih
  rw[rB,Tm.nodes,yN,yN,yN];simp;omega
def wJ(f:Tm):List Tm->Tm
 | []=>f
 |a::l=>wJ (.mk 5 0 [f,a]) l
theorem cX(f a:Tm):zG (fun q=>e94 q f a) (.mk 5 0 [f,a]):=zG.mk fun _=>rfl
theorem j4:∀(l p:List Tm) (v:Nat) (f:Tm),p.drop v=l->p.length<9223372036854775808->zG (fun q=>cW q p (v:Int) f.k f.n f.sub) (wJ f l)
 | [],p,v,f,hd,hl=>by
  refine zG.succ ?_
  simp only[cW]
  exact zG.ifF (drop_nil hd) (zG.ret.eq (by rw[uQ,wJ]))
 |a::l,p,v,f,hd,hl=>by
  have hlt:=yY hd
  refine zG.succ ?_
  simp only[cW]
  rw[uQ]
  refine zG.ifT (yK hd) (zG.pure (yD hd) ((cX f a).bind ?_))
  rw[yE v (by omega),wJ]
  exact j4 l p (v+1) (.mk 5 0 [f,a]) (zZ hd) hl
theorem rM(f:Tm)(l:List Tm)(h:l.length<9223372036854775808):zG (fun q=>e63 q f l) (wJ f l):=by
 simp only[e63]
 exact j4 l l 0 f rfl h
theorem pQ:∀(l:List Tm) (f:Tm),f.Ok->(∀x∈l,x.Ok)->(wJ f l).Ok
 | [],f,hf,_=>by rw[wJ];exact hf
 |a::l,f,hf,hl=>by
  rw[wJ]
  refine pQ l _ ?_ fun x hx=>hl x (by simp[hx])
  rw[Tm.Ok,mN,mN,mN]
  exact⟨by simp,hf,hl a (by simp),trivial⟩
def zEX(qq:Nat)(p0:Int):Option Tm:=
 zCQ qq 2 p0 []>>=fun r1=>
 some r1
theorem zPS{qq p0 r}(h:zEX qq p0=some r):Ct 114 [] [ai p0] (xF r) [] 0:=⟨by
 unfold zEX at h
 obtain⟨r1,h2,h⟩:=zB h
 obtain rfl:=sj h
 exact tF ⟨func114,rfl⟩ 1 [] (oD (dT r1.sub)<|oC 0 [] (zJl h2) o0),⟨tv,tv⟩,zA,⟨tv,tv,dT _,tv⟩,zA⟩
def zJk(qq:Nat)(p0:Int):Option Bool:=
 if decide (p0≥0)then
 some (decide (p0≤1048576))
 else
 some false
theorem zWo:Qf 168 f168:=⟨func168,rfl⟩
theorem zPT{qq p0 r}(h:zJk qq p0=some r):Ct 168 [] [ai p0] (ab r) [] 0:=⟨by
 unfold zJk at h
 obtain⟨h1,h⟩|⟨h1,h⟩:=zL h
 cases h
 exact tF zWo 1 [] (oB 0 h1 o0)
 cases h
 exact tF zWo 0 [] (oB 0 h1 o0),⟨tv,tv⟩,zA,tv,zA⟩
def B0(qq:Nat)(p0 q1 q2:Int):Option Int:=
 if decide (p0<q1)then
 some p0
 else
 some (xL (p0+q2))
theorem zCR:Qf 170 f170:=⟨func170,rfl⟩
theorem zLG{qq p0 q1 q2 r}(h:B0 qq p0 q1 q2=some r):Ct 170 [.cells [ai q1],.cells [ai q2]] [ai p0,.mp 0 0,.mp 1 0] (ai r) [.cells [ai q1],.cells [ai q2]] 0:=⟨by
 unfold B0 at h
 obtain⟨h1,h⟩|⟨h1,h⟩:=zL h
 obtain rfl:=sj h
 exact tF zCR 0 [0,1] (oB 1 h1 o0)
 obtain rfl:=sj h
 exact tF zCR 2 [0,1] (oB 1 h1 o0),⟨tv,(lz rfl),(lz rfl),tv⟩,(zC ⟨tv,tv⟩ (zC ⟨tv,tv⟩ zA)),tv,(zC ⟨tv,tv⟩ (zC ⟨tv,tv⟩ zA))⟩
def e86(qq:Nat)(p0:Int):Option Tm:=
 zCQ qq 1 p0 []>>=fun r1=>
 some r1
theorem c86{qq p0 r}(h:e86 qq p0=some r):Ct 86 [] [ai p0] (xF r) [] 0:=⟨by
 unfold e86 at h
 obtain⟨r1,h2,h⟩:=zB h
 obtain rfl:=sj h
 exact tF ⟨func86,rfl⟩ 1 [] (oD (dT r1.sub)<|oC 0 [] (zJl h2) o0),⟨tv,tv⟩,zA,⟨tv,tv,dT _,tv⟩,zA⟩
mutual
def qP:Nat->Tm->Int->Int->Int->Option Tm
 |0,_,_,_,_=>none
 |qq+1,p0,p1,q2,q3=>
 if p0.k==1 then
 if decide (p0.n≥p1)then
 B0 qq (xL (p0.n-p1)) q2 q3>>=fun r3=>
 e86 qq (xL (r3+p1))>>=fun r5=>
 some r5
 else
 e86 qq p0.n>>=fun r7=>
 some r7
 else
 uE qq p0 p1 q2 q3 0 []
def uE:Nat->Tm->Int->Int->Int->Int->zQ->Option Tm
 |0,_,_,_,_,_,_=>none
 |qq+1,p0,p1,q2,q3,v38,vP=>
 if decide (v38<(p0.sub.length:Int))then
 zR p0.sub v38>>=fun x10=>
 if v38==1 then
 if p0.k != 5 then
 qP qq x10 (xL (p1+1)) q2 q3>>=fun r14=>
 xQ 40 vP [r14]>>=fun l16=>
 uE qq p0 p1 q2 q3 (xL (v38+1)) l16
 else
 qP qq x10 p1 q2 q3>>=fun r18=>
 xQ 40 vP [r18]>>=fun l20=>
 uE qq p0 p1 q2 q3 (xL (v38+1)) l20
 else
 qP qq x10 p1 q2 q3>>=fun r22=>
 xQ 40 vP [r22]>>=fun l24=>
 uE qq p0 p1 q2 q3 (xL (v38+1)) l24
 else
 some (Tm.mk p0.k p0.n vP)
end
abbrev B1 (p0:Tm) (p1 q2 q3:Int) (r:Tm) (C:Cf):Prop:=C 169 [.cells [ai q2],.cells [ai q3]] [xF p0,ai p1,.clo 170 [] [.mp 0 0,.mp 1 0]] (xF r) [.cells [ai q2],.cells [ai q3]] 0
theorem U5:Qf 169 f169:=⟨func169,rfl⟩
theorem U6{p0 p1 q2 q3 r}(h:B1 p0 p1 q2 q3 r Ci):B1 p0 p1 q2 q3 r Ct:=⟨h,⟨⟨tv,tv,⟨tv,dT _⟩,tv⟩,tv,⟨tv,⟨(lz rfl),(lz rfl),tv⟩⟩,tv⟩,(zC ⟨tv,tv⟩ (zC ⟨tv,tv⟩ zA)),⟨tv,tv,dT _,tv⟩,(zC ⟨tv,tv⟩ (zC ⟨tv,tv⟩ zA))⟩
theorem dD:∀qq:Nat,(∀ {p0 p1 q2 q3 r},qP qq p0 p1 q2 q3=some r->B1 p0 p1 q2 q3 r Ct)∧(∀ {p0 p1 q2 q3 v38 vP r},uE qq p0 p1 q2 q3 v38 vP=some r->(∀j,dL 2 (pt 16309 f169) (sp j 64 0 [(1,ai p1),(2,.clo 170 [] [.mp 0 0,.mp 1 0]),(3,.mp 2 0),(6,.mp 3 0),(7,.mp 4 0),(36,zO zD p0.sub .no),(37,ai (p0.sub.length:Int)),(38,ai v38)]) (⟨[(0,.cells [ai q2]),(1,.cells [ai q3]),(2,.cells [ai p0.k,ai p0.n,zO zD p0.sub .no]),(3,.cells [ai 0,ai 0,zO zD ([]:zQ) .nl]),(4,.cells [ai p0.k,ai p0.n,zO zD vP (.st 0 3)])],5,[0],1,[]⟩) (fQ 2 (nQ 2 f169 (xF r) [.cells [ai q2],.cells [ai q3]] 0) [.blk 0,.seq (pt 255 f169)]))):=by
 intro qq
 induction qq with
 |zero=>
  exact⟨fun h=>nn h,fun h=>nn h⟩
 |succ qq ih=>
  obtain⟨I1,nK⟩:=ih
  refine⟨?_,?_⟩
  intro p0 p1 q2 q3 r h
  rw[qP]at h
  obtain⟨h1,h⟩|⟨h1,h⟩:=zL h
  have k:=oB 1 h1 o0
  obtain⟨h2,h⟩|⟨h2,h⟩:=zL h
  obtain⟨r3,h4,h⟩:=zB h
  obtain⟨r5,h6,h⟩:=zB h
  obtain rfl:=sj h
  exact U6 (tF U5 1 [0,1] (oD (dT r5.sub)<|oC 1 [] (c86 h6)<|oC 2 [0,1] (zLG h4)<|oB 1 h2 k))
  obtain⟨r7,h8,h⟩:=zB h
  obtain rfl:=sj h
  exact U6 (tF U5 1 [0,1] (oD (dT r7.sub)<|oC 1 [] (c86 h8)<|oB 1 h2 k))
  exact U6 (tH U5 5 [(some 4,2,3)] [0,1,2,3,4] [0] [1,2,3,6,7,36,37,38] (oD (dT p0.sub)<|oD (dT ([]:zQ))<|oD (dT ([]:zQ))<|oD (dT p0.sub)<|oB 1 h1 o0) (nK h))
  intro p0 p1 q2 q3 v38 vP r h
  rw[uE]at h
  have z {os ob} (k:Oz os ob):=oD (dT ([]:zQ))<|oD (dT p0.sub)<|k
  obtain⟨h9,h⟩|⟨h9,h⟩:=zL h
  obtain⟨x10,h11,h⟩:=zB h
  have k:=oA 0 (wN (o:=.no) h11)<|oB 0 h9 o0
  obtain⟨h12,h⟩|⟨h12,h⟩:=zL h
  have k:=oB 2 h12 k
  obtain⟨h13,h⟩|⟨h13,h⟩:=zL h
  obtain⟨r14,h15,h⟩:=zB h
  obtain⟨l16,h17,h⟩:=zB h
  exact fun j=>lH 2 [] [0,1,2,3,4] [1] [1,2,3,6,7,36,37,38] (oD (dT p0.sub)<|oD (dT l16)<|z<|oP 0 (sE h17 (by simp))<|oS 0 (xJ xM [r14])<|oC 1 [0,1] (I1 h15)<|oCl 1<|oB 1 h13 k) (nK h)
  obtain⟨r18,h19,h⟩:=zB h
  obtain⟨l20,h21,h⟩:=zB h
  exact fun j=>lH 2 [] [0,1,2,3,4] [1] [1,2,3,6,7,36,37,38] (oD (dT p0.sub)<|oD (dT l20)<|z<|oP 0 (sE h21 (by simp))<|oS 0 (xJ xM [r18])<|oC 1 [0,1] (I1 h19)<|oCl 0<|oB 1 h13 k) (nK h)
  obtain⟨r22,h23,h⟩:=zB h
  obtain⟨l24,h25,h⟩:=zB h
  exact fun j=>lH 2 [] [0,1,2,3,4] [1] [1,2,3,6,7,36,37,38] (oD (dT p0.sub)<|oD (dT l24)<|z<|oP 0 (sE h25 (by simp))<|oS 0 (xJ xM [r22])<|oC 1 [0,1] (I1 h23)<|oCl 0<|oB 2 h12 k) (nK h)
  obtain rfl:=sj h
  exact fun j=>lF 2 [0,1] (oD (dT vP)<|oB 0 h9 o0)
theorem zLH{qq p0 p1 q2 q3 r}(h:qP qq p0 p1 q2 q3=some r):B1 p0 p1 q2 q3 r Ct:=(dD _).1 h
def zJj(qq:Nat)(p0:Tm)(p1 p2:Int):Option (Tm×Int):=
 G3 qq p0>>=fun r1=>
 if r1 then
 zJk qq p1>>=fun r4=>
 if r4 then
 zJk qq p2>>=fun r7=>
 if r7 then
 qP qq p0 0 p2 p1>>=fun r10=>
 G3 qq r10>>=fun r12=>
 if r12 then
 some (r10,0)
 else
 some ((Tm.mk 0 0 []),2)
 else
 some ((Tm.mk 0 0 []),5)
 else
 some ((Tm.mk 0 0 []),5)
 else
 some ((Tm.mk 0 0 []),5)
theorem zLI:Qf 143 f143:=⟨func143,rfl⟩
theorem zWn{qq p0 p1 p2 r}(h:zJj qq p0 p1 p2=some r):Ct 143 [] [xF p0,ai p1,ai p2] (.tup [xF r.1,ai r.2]) [] 0:=⟨by
 unfold zJj at h
 obtain⟨r1,h2,h⟩:=zB h
 obtain⟨h3,h⟩|⟨h3,h⟩:=zL h
 obtain⟨r4,h5,h⟩:=zB h
 have k:=oK 1 [] h3 (mO h2) o0
 obtain⟨h6,h⟩|⟨h6,h⟩:=zL h
 obtain⟨r7,h8,h⟩:=zB h
 have k:=oK 2 [] h6 (zPT h5) k
 obtain⟨h9,h⟩|⟨h9,h⟩:=zL h
 obtain⟨r10,h11,h⟩:=zB h
 obtain⟨r12,h13,h⟩:=zB h
 have k:=oC 2 [2,1] (zLH h11)<|oK 2 [] h9 (zPT h8) k
 obtain⟨h14,h⟩|⟨h14,h⟩:=zL h
 cases h
 exact tF zLI 3 [] (oD (dT r10.sub)<|oK 2 [] h14 (mO h13) k)
 cases h
 exact tF zLI 2 [] (oD (dT ([]:zQ))<|oK 2 [] h14 (mO h13) k)
 cases h
 exact tF zLI 2 [] (oD (dT ([]:zQ))<|oK 2 [] h9 (zPT h8) k)
 cases h
 exact tF zLI 2 [] (oD (dT ([]:zQ))<|oK 2 [] h6 (zPT h5) k)
 cases h
 exact tF zLI 2 [] (oD (dT ([]:zQ))<|oK 1 [] h3 (mO h2) o0),⟨⟨tv,tv,⟨tv,dT _⟩,tv⟩,tv,tv,tv⟩,zA,⟨⟨tv,tv,dT _,tv⟩,tv,tv⟩,zA⟩
def zEY(qq:Nat)(p0:Tm)(p1:Int):Option (Tm×Int):=
 zJj qq p0 p1 0>>=fun r1=>
 some (r1.1,r1.2)
theorem zTf{qq p0 p1 r}(h:zEY qq p0 p1=some r):Ct 115 [] [xF p0,ai p1] (.tup [xF r.1,ai r.2]) [] 0:=⟨by
 unfold zEY at h
 obtain⟨r1,h2,h⟩:=zB h
 cases h
 exact tF ⟨func115,rfl⟩ 3 [] (oD (dT r1.1.sub)<|oC 1 [] (zWn h2) o0),⟨⟨tv,tv,⟨tv,dT _⟩,tv⟩,tv,tv⟩,zA,⟨⟨tv,tv,dT _,tv⟩,tv,tv⟩,zA⟩
def xZ(k:Int)(i:Nat)(b:Int):Int:=if i=1∧k≠5 then b+1 else b
mutual
def vS:Tm->Int->Int->Int->Tm
 | .mk kd n l,b,c,k=>if kd=1 then .mk 1 (if b≤n then(if n-b<c then n-b else n-b+k)+b else n) []else .mk kd n (sC l kd 0 b c k)
def sC:List Tm->Int->Nat->Int->Int->Int->List Tm
 | [],_,_,_,_,_=>[]
 |t::l,kd,i,b,c,k=>vS t (xZ kd i b) c k::sC l kd (i+1) b c k
end
theorem zGR:∀(l:List Tm) (kd:Int) (i:Nat) (b c k:Int),(sC l kd i b c k).length=l.length
 | [],_,_,_,_,_=>by rw[sC]
 |t::l,kd,i,b,c,k=>by rw[sC];exact congrArg (· + 1) (zGR l kd (i+1) b c k)
theorem I2(n:Int):zG (fun q=>e86 q n) (.mk 1 n []):=zG.mk fun _=>rfl
theorem zAO(n:Int):zG (fun q=>zEX q n) (.mk 2 n []):=zG.mk fun _=>rfl
mutual
theorem O2:∀(t:Tm) (b c k:Int),xG t=true->0≤b->b+t.high≤1152921504606846976->0≤c->c≤1048576->0≤k->k≤1048576->zG (fun q=>qP q t b c k) (vS t b c k)
 | .mk kd n l,b,c,k,hg,hb,hb2,hc,hc2,hk,hk2=>by
  refine zG.succ ?_
  simp only[qP]
  have hh:=xV hg
  have hn:=cT hh.1
  rw[Tm.high]at hb2
  rw[vS]
  by_cases h1:kd=1
  ·rw[if_pos h1]
   refine zG.ifT (by simpa[Tm.k]using h1) ?_
   simp only[Tm.n]
   by_cases h2:n≥b
   ·refine zG.ifT (by simpa using h2) ?_
    rw[if_pos h2,yM (x:=n-b) (by omega) (by omega)]
    refine zG.bind (a:=if n-b<c then n-b else n-b+k) ?_ ?_
    ·refine zG.mk fun q=>?_
     unfold B0
     by_cases h3:n-b<c
     ·simp[h3]
     ·simp[h3];exact yM (by omega) (by omega)
    ·rw[yM (by split<;>omega) (by split<;>omega)]
     exact(I2 _).bind zG.ret
   ·refine zG.ifF (by simpa using h2) ?_
    rw[if_neg h2]
    exact(I2 _).bind zG.ret
  ·rw[if_neg h1]
   refine zG.ifF (by simpa[Tm.k]using h1) ?_
   exact zCS l (.mk kd n l) 0 b c k [] rfl hh.2 (by have:=hn.2.2.2.2;exact this) hb (by omega) hc hc2 hk hk2 (by simp)
theorem zCS:∀(l:List Tm) (p:Tm) (v:Nat) (b c k:Int) (acc:List Tm),p.sub.drop v=l->qF l=true->p.sub.length≤2->0≤b->b+1+pI l≤1152921504606846976->0≤c->c≤1048576->0≤k->k≤1048576->acc.length≤v ->
  zG (fun q=>uE q p b c k (v:Int) acc) (.mk p.k p.n (acc++sC l p.k v b c k))
 | [],p,v,b,c,k,acc,hd,hg,hl,hb,hb2,hc,hc2,hk,hk2,ha=>by
  refine zG.succ ?_
  simp only[uE]
  exact zG.ifF (drop_nil hd) (zG.ret.eq (by rw[sC];simp))
 |t::l,p,v,b,c,k,acc,hd,hg,hl,hb,hb2,hc,hc2,hk,hk2,ha=>by
  have hlt:=yY hd
  have hgc:=wC hg
  rw[pI]at hb2
  refine zG.succ ?_
  simp only[uE]
  refine zG.ifT (yK hd) (zG.pure (yD hd) ?_)
  have next:∀(x:Tm),zG (fun q=>xQ 40 acc [x]>>=fun l16=>uE q p b c k (xL ((v:Int)+1)) l16) (.mk p.k p.n (acc++x::sC l p.k (v+1) b c k)):=fun x=>by
   refine zG.pure (xB (by simp<;>omega)) ?_
   rw[yE v (by omega)]
   refine(zCS l p (v+1) b c k (acc++[x]) (zZ hd) hgc.2 hl hb (by omega) hc hc2 hk hk2 (by simp<;>omega)).eq (by simp)
  rw[sC]
  by_cases h1:v=1
  ·subst h1
   refine zG.ifT rfl ?_
   by_cases h5:p.k=5
   ·refine zG.ifF (by simp[h5]) ?_
    have e:xZ p.k 1 b=b:=by unfold xZ;simp[h5]
    rw[e]
    exact(O2 t b c k hgc.1 hb (by omega) hc hc2 hk hk2).bind (next _)
   ·refine zG.ifT (by simp[h5]) ?_
    have e:xZ p.k 1 b=b+1:=by unfold xZ;simp[h5]
    rw[e,yM (x:=b+1) (by omega) (by omega)]
    exact(O2 t (b+1) c k hgc.1 (by omega) (by omega) hc hc2 hk hk2).bind (next _)
  ·refine zG.ifF (by simp<;>omega) ?_
   have e:xZ p.k v b=b:=by unfold xZ;simp[h1]
   rw[e]
   exact(O2 t b c k hgc.1 hb (by omega) hc hc2 hk hk2).bind (next _)
end
mutual
theorem zEZ:∀(t:Tm) (b c k:Int),t.Ok->(vS t b c k).Ok
 | .mk kd n l,b,c,k,h=>by
  rw[vS]
  split
  ·rw[Tm.Ok,mN];simp
  ·rw[Tm.Ok]at h ⊢
   rw[zGR]
   exact⟨h.1,zLJ l kd 0 b c k h.2⟩
theorem zLJ:∀(l:List Tm) (kd:Int) (i:Nat) (b c k:Int),mN l->mN (sC l kd i b c k)
 | [],_,_,_,_,_,_=>by rw[sC,mN];trivial
 |t::l,kd,i,b,c,k,h=>by
  rw[mN]at h
  rw[sC,mN]
  exact⟨zEZ t _ c k h.1,zLJ l kd (i+1) b c k h.2⟩
end
def dQ(n:Int):Bool:=decide (0≤n)&&decide (n≤1048576)
theorem zGS(n:Int):zG (fun q=>zJk q n) (dQ n):=by
 refine zG.mk fun q=>?_
 unfold zJk dQ
 by_cases h:n≥0
 ·rw[zPJ (decide_eq_true h)];simp[show 0≤n from h]
 ·rw[zLo (decide_eq_false h)];simp[show ¬0≤n from h]
def zT:Tm:=.mk 0 0 []
def uK(t:Tm)(k c:Int):Tm×Int:=
 if zH t=true∧dQ k=true∧dQ c=true then(if zH (vS t 0 c k)=true then(vS t 0 c k,0)else(zT,2))else(zT,5)
theorem zGT(t:Tm)(k c:Int)(ho:t.Ok):zG (fun q=>zJj q t k c) (uK t k c):=by
 simp only[zJj]
 refine(xR t ho).bind ?_
 unfold uK
 by_cases h1:zH t=true
 ·refine zG.ifT h1 ((zGS k).bind ?_)
  by_cases h2:dQ k=true
  ·refine zG.ifT h2 ((zGS c).bind ?_)
   by_cases h3:dQ c=true
   ·rw[if_pos ⟨h1,h2,h3⟩]
    have hs:=zI h1
    have h2':=h2;have h3':=h3
    unfold dQ at h2' h3'
    simp only[Bool.and_eq_true,decide_eq_true_eq]at h2' h3'
    refine zG.ifT h3 ((O2 t 0 c k hs.2.2 (by omega) (by omega) h3'.1 h3'.2 h2'.1 h2'.2).bind ((xR _ (zEZ t 0 c k ho)).bind ?_))
    by_cases h4:zH (vS t 0 c k)=true
    ·rw[if_pos h4,if_pos h4];exact zG.ret
    ·rw[if_neg h4,if_neg h4];exact zG.ret
   ·rw[if_neg (fun h=>h3 h.2.2)];exact zG.ifF (by simpa using h3) zG.ret
  ·rw[if_neg (fun h=>h2 h.2.1)];exact zG.ifF (by simpa using h2) zG.ret
 ·rw[if_neg (fun h=>h1 h.1)];exact zG.ifF (by simpa using h1) zG.ret
theorem fD(t:Tm)(k c:Int)(ho:t.Ok):(uK t k c).1.Ok:=by
 have hz:zT.Ok:=by unfold zT;rw[Tm.Ok,mN];simp
 unfold uK
 split
 ·split
  ·exact zEZ t 0 c k ho
  ·exact hz
 ·exact hz
theorem zLK(t:Tm)(k:Int)(ho:t.Ok):zG (fun q=>zEY q t k) (uK t k 0):=by
 simp only[zEY]
 exact(zGT t k 0 ho).bind zG.ret
def raT(a:Tm)(by' left:Int)(long:Bool):Tm×Int×Bool:=
 if left-Z1 a 0<0 then(.mk 2 0 [],left-Z1 a 0,true)
 else if (uK a by' 0).2≠0 then(.mk 2 0 [],left-Z1 a 0,true)else((uK a by' 0).1,left-Z1 a 0,long)
mutual
def aI(ls:List Tm):Tm->Int->Int->Bool->Tm×Int×Bool
 | .mk kd n l,b,left,long=>
  if long=true then(.mk 2 0 [],left,long)
  else if kd=1∧b≤n then
   (if h:(n-b).toNat<ls.length then raT (ls[(n-b).toNat]) b left long else(.mk 1 (n-ls.length) [],left,long))
  else
   let r:=L9 ls l kd 0 b (left-1) (decide (left-1<0))
   (.mk kd n r.1,r.2.1,r.2.2)
def L9(ls:List Tm):List Tm->Int->Nat->Int->Int->Bool->List Tm×Int×Bool
 | [],_,_,_,left,long=>([],left,long)
 |t::l,kd,i,b,left,long=>
  let x:=aI ls t (xZ kd i b) left long
  let r:=L9 ls l kd (i+1) b x.2.1 x.2.2
  (x.1::r.1,r.2.1,r.2.2)
end
def mF(left:Int)(long:Bool):Prop:=-8193≤left∧left≤8192∧(long=false->0≤left)
theorem zLL{a:Tm}{by' left:Int}(h:mF left false):mF (raT a by' left false).2.1 (raT a by' left false).2.2:=by
 have:=zCE a 0 (by omega) (by omega)
 have h0:=h.2.2 rfl
 have h1:=h.2.1
 unfold raT mF
 split
 ·exact⟨by simp only;omega,by simp only;omega,fun h=>by cases h⟩
 ·split
  ·exact⟨by simp only;omega,by simp only;omega,fun h=>by cases h⟩
  ·exact⟨by simp only;omega,by simp only;omega,fun _=>by simp only;omega⟩
def e84(qq:Nat)(p0:Tm)(p1:Int):Option Int:=
 if p0.k != 1 then
 some (-1)
 else
 if decide (p0.n<p1)then
 some (-1)
 else
 some (xL (p0.n-p1))
theorem q84:Qf 84 f84:=⟨func84,rfl⟩
theorem c84{qq p0 p1 r}(h:e84 qq p0 p1=some r):Ct 84 [] [xF p0,ai p1] (ai r) [] 0:=⟨by
 unfold e84 at h
 obtain⟨h1,h⟩|⟨h1,h⟩:=zL h
 cases h
 exact tF q84 0 [] (oB 1 h1 o0)
 have k:=oB 1 h1 o0
 obtain⟨h2,h⟩|⟨h2,h⟩:=zL h
 cases h
 exact tF q84 0 [] (oB 1 h2 k)
 cases h
 exact tF q84 2 [] (oB 1 h2 k),⟨⟨tv,tv,⟨tv,dT _⟩,tv⟩,tv,tv⟩,zA,tv,zA⟩
def B2(qq:Nat)(q0:Int)(q1:Bool)(q2:zQ)(p1:Tm)(p2:Int):Option (Tm×Int×Bool):=
 e95 qq p1>>=fun r1=>
 if decide ((xL (q0-r1))<0)then
 zEX qq 0>>=fun r4=>
 some (r4,(xL (q0-r1)),true)
 else
 zEY qq p1 p2>>=fun r6=>
 if r6.2 != 0 then
 zEX qq 0>>=fun r9=>
 some (r9,(xL (q0-r1)),true)
 else
 some (r6.1,(xL (q0-r1)),q1)
theorem zAP:Qf 85 f85:=⟨func85,rfl⟩
theorem zPV{qq q0 q1 q2 p1 p2 r}(h:B2 qq q0 q1 q2 p1 p2=some r):Ct 85 [.cells [ai q0,ab q1,.clo 83 [] [.mp 1 0,.mp 2 0]],.cells [zO zD q2 .no],.cells [.mp 0 0]] [.mp 0 0,xF p1,ai p2] (xF r.1) [.cells [ai r.2.1,ab r.2.2,.clo 83 [] [.mp 1 0,.mp 2 0]],.cells [zO zD q2 .no],.cells [.mp 0 0]] 0:=⟨by
 unfold B2 at h
 obtain⟨r1,h2,h⟩:=zB h
 have k:=oC 1 [] (c95 h2)<|oCl 0 o0
 obtain⟨h3,h⟩|⟨h3,h⟩:=zL h
 obtain⟨r4,h5,h⟩:=zB h
 cases h
 exact tF zAP 1 [0,1,2] (oD (dT r4.sub)<|oD (dT q2)<|oC 1 [] (zPS h5)<|oB 3 h3 k)
 obtain⟨r6,h7,h⟩:=zB h
 have k:=oC 1 [] (zTf h7)<|oB 3 h3 k
 obtain⟨h8,h⟩|⟨h8,h⟩:=zL h
 obtain⟨r9,h10,h⟩:=zB h
 cases h
 exact tF zAP 1 [0,1,2] (oD (dT r9.sub)<|oD (dT q2)<|oC 1 [] (zPS h10)<|oB 3 h8 k)
 cases h
 exact tF zAP 2 [0,1,2] (oD (dT r6.1.sub)<|oD (dT q2)<|oB 3 h8 k),⟨(lz rfl),⟨tv,tv,⟨tv,dT _⟩,tv⟩,tv,tv⟩,(zC ⟨tv,tv,⟨tv,⟨(lz rfl),(lz rfl),tv⟩⟩,tv⟩ (zC ⟨⟨tv,dT _⟩,tv⟩ (zC ⟨(lz rfl),tv⟩ zA))),⟨tv,tv,dT _,tv⟩,(zC ⟨tv,tv,⟨tv,⟨(lz rfl),(lz rfl),tv⟩⟩,tv⟩ (zC ⟨dT _,tv⟩ (zC ⟨(lz rfl),tv⟩ zA)))⟩
def jH(qq:Nat)(p0:Tm)(p1:Int)(q2:zQ)(q3:Int)(q4:Bool):Option (Tm×Bool×Int×Bool):=
 e84 qq p0 p1>>=fun r1=>
 if decide (r1<0)then
 some ((Tm.mk 0 0 []),false,q3,q4)
 else
 if decide (r1<(q2.length:Int))then
 zR q2 r1>>=fun x5=>
 B2 qq q3 q4 q2 x5 p1>>=fun r7=>
 some (r7.1,true,r7.2.1,r7.2.2)
 else
 e86 qq (xL (p0.n-(q2.length:Int)))>>=fun r9=>
 some (r9,true,q3,q4)
theorem zAQ:Qf 83 f83:=⟨func83,rfl⟩
theorem zPW{qq p0 p1 q2 q3 q4 r}(h:jH qq p0 p1 q2 q3 q4=some r):Ct 83 [.cells [zO zD q2 .no],.cells [.mp 2 0],.cells [ai q3,ab q4,.clo 83 [] [.mp 0 0,.mp 1 0]]] [xF p0,ai p1,.mp 0 0,.mp 1 0] (.tup [xF r.1,ab r.2.1]) [.cells [zO zD q2 .no],.cells [.mp 2 0],.cells [ai r.2.2.1,ab r.2.2.2,.clo 83 [] [.mp 0 0,.mp 1 0]]] 0:=⟨by
 unfold jH at h
 obtain⟨r1,h2,h⟩:=zB h
 have k:=oC 1 [] (c84 h2) o0
 obtain⟨h3,h⟩|⟨h3,h⟩:=zL h
 cases h
 exact tF zAQ 1 [0,1,2] (oD (dT ([]:zQ))<|oD (dT q2)<|oB 0 h3 k)
 have k:=oB 0 h3 k
 obtain⟨h4,h⟩|⟨h4,h⟩:=zL h
 obtain⟨x5,h6,h⟩:=zB h
 obtain⟨r7,h8,h⟩:=zB h
 cases h
 exact tF zAQ 1 [0,1,2] (oD (dT r7.1.sub)<|oD (dT q2)<|oC 1 [2,0,1] (zPV h8)<|oA 2 (wN (o:=.no) h6)<|oB 2 h4 k)
 obtain⟨r9,h10,h⟩:=zB h
 cases h
 exact tF zAQ 1 [0,1,2] (oD (dT r9.sub)<|oD (dT q2)<|oC 4 [] (c86 h10)<|oB 2 h4 k),⟨⟨tv,tv,⟨tv,dT _⟩,tv⟩,tv,(lz rfl),(lz rfl),tv⟩,(zC ⟨⟨tv,dT _⟩,tv⟩ (zC ⟨(lz rfl),tv⟩ (zC ⟨tv,tv,⟨tv,⟨(lz rfl),(lz rfl),tv⟩⟩,tv⟩ zA))),⟨⟨tv,tv,dT _,tv⟩,tv,tv⟩,(zC ⟨dT _,tv⟩ (zC ⟨(lz rfl),tv⟩ (zC ⟨tv,tv,⟨tv,⟨(lz rfl),(lz rfl),tv⟩⟩,tv⟩ zA)))⟩
mutual
def qQ:Nat->Int->Bool->zQ->Tm->Int->Option (Tm×Int×Bool)
 |0,_,_,_,_,_=>none
 |qq+1,q0,q1,q2,p1,p2=>
 if q1 then
 zEX qq 0>>=fun r2=>
 some (r2,q0,q1)
 else
 jH qq p1 p2 q2 q0 q1>>=fun r4=>
 if r4.2.1 then
 some (r4.1,r4.2.2.1,r4.2.2.2)
 else
 if decide ((xL (r4.2.2.1-1))<0)then
 vE qq q2 p1 p2 0 (xL (r4.2.2.1-1)) true []
 else
 vE qq q2 p1 p2 0 (xL (r4.2.2.1-1)) r4.2.2.2 []
def vE:Nat->zQ->Tm->Int->Int->Int->Bool->zQ->Option (Tm×Int×Bool)
 |0,_,_,_,_,_,_,_=>none
 |qq+1,q2,p1,p2,v53,yB,vO,B3=>
 if decide (v53<(p1.sub.length:Int))then
 zR p1.sub v53>>=fun x9=>
 if v53==1 then
 if p1.k != 5 then
 qQ qq yB vO q2 x9 (xL (p2+1))>>=fun r13=>
 xQ 40 B3 [r13.1]>>=fun l15=>
 vE qq q2 p1 p2 (xL (v53+1)) r13.2.1 r13.2.2 l15
 else
 qQ qq yB vO q2 x9 p2>>=fun r17=>
 xQ 40 B3 [r17.1]>>=fun l19=>
 vE qq q2 p1 p2 (xL (v53+1)) r17.2.1 r17.2.2 l19
 else
 qQ qq yB vO q2 x9 p2>>=fun r21=>
 xQ 40 B3 [r21.1]>>=fun l23=>
 vE qq q2 p1 p2 (xL (v53+1)) r21.2.1 r21.2.2 l23
 else
 some ((Tm.mk p1.k p1.n B3),yB,vO)
end
abbrev B4 (q0:Int) (q1:Bool) (q2:zQ) (p1:Tm) (p2:Int) (r:Tm×Int×Bool) (C:Cf):Prop:=C 113 [.cells [ai q0,ab q1,.clo 83 [] [.mp 1 0,.mp 2 0]],.cells [zO zD q2 .no],.cells [.mp 0 0]] [.mp 0 0,xF p1,ai p2] (xF r.1) [.cells [ai r.2.1,ab r.2.2,.clo 83 [] [.mp 1 0,.mp 2 0]],.cells [zO zD q2 .no],.cells [.mp 0 0]] 0
theorem B5:Qf 113 f113:=⟨func113,rfl⟩
theorem B6{q0 q1 q2 p1 p2 r}(h:B4 q0 q1 q2 p1 p2 r Ci):B4 q0 q1 q2 p1 p2 r Ct:=⟨h,⟨(lz rfl),⟨tv,tv,⟨tv,dT _⟩,tv⟩,tv,tv⟩,(zC ⟨tv,tv,⟨tv,⟨(lz rfl),(lz rfl),tv⟩⟩,tv⟩ (zC ⟨⟨tv,dT _⟩,tv⟩ (zC ⟨(lz rfl),tv⟩ zA))),⟨tv,tv,dT _,tv⟩,(zC ⟨tv,tv,⟨tv,⟨(lz rfl),(lz rfl),tv⟩⟩,tv⟩ (zC ⟨dT _,tv⟩ (zC ⟨(lz rfl),tv⟩ zA)))⟩
theorem dF:∀qq:Nat,(∀ {q0 q1 q2 p1 p2 r},qQ qq q0 q1 q2 p1 p2=some r->B4 q0 q1 q2 p1 p2 r Ct)∧(∀ {q2 p1 p2 v53 yB vO B3 r},vE qq q2 p1 p2 v53 yB vO B3=some r->(∀j,dL 3 (pt 262069 f113) (sp j 79 0 [(0,.mp 0 0),(2,ai p2),(4,.mp 3 0),(6,.mp 4 0),(9,.mp 5 0),(51,zO zD p1.sub .no),(52,ai (p1.sub.length:Int)),(53,ai v53)]) (⟨[(0,.cells [ai yB,ab vO,.clo 83 [] [.mp 1 0,.mp 2 0]]),(1,.cells [zO zD q2 .no]),(2,.cells [.mp 0 0]),(3,.cells [ai p1.k,ai p1.n,zO zD p1.sub .no]),(4,.cells [ai 0,ai 0,zO zD ([]:zQ) .nl]),(5,.cells [ai p1.k,ai p1.n,zO zD B3 (.st 0 3)])],6,[0],1,[]⟩) (fQ 3 (nQ 3 f113 (xF r.1) [.cells [ai r.2.1,ab r.2.2,.clo 83 [] [.mp 1 0,.mp 2 0]],.cells [zO zD q2 .no],.cells [.mp 0 0]] 0) [.blk 0,.seq (pt 4095 f113)]))):=by
 intro qq
 induction qq with
 |zero=>
  exact⟨fun h=>nn h,fun h=>nn h⟩
 |succ qq ih=>
  obtain⟨I3,qS⟩:=ih
  refine⟨?_,?_⟩
  intro q0 q1 q2 p1 p2 r h
  rw[qQ]at h
  have z {os ob} (k:Oz os ob):=oD (dT p1.sub)<|oD (dT ([]:zQ))<|oD (dT ([]:zQ))<|oD (dT p1.sub)<|oD (dT q2)<|k
  obtain⟨h1,h⟩|⟨h1,h⟩:=zL h
  obtain⟨r2,h3,h⟩:=zB h
  cases h
  exact B6 (tF B5 1 [0,1,2] (oD (dT r2.sub)<|oD (dT q2)<|oC 0 [] (zPS h3)<|oB 0 h1 o0))
  obtain⟨r4,h5,h⟩:=zB h
  have k:=oC 2 [1,2,0] (zPW h5)<|oB 0 h1 o0
  obtain⟨h6,h⟩|⟨h6,h⟩:=zL h
  cases h
  exact B6 (tF B5 3 [0,1,2] (oD (dT r4.1.sub)<|oD (dT q2)<|oB 1 h6 k))
  have k:=oB 1 h6 k
  obtain⟨h7,h⟩|⟨h7,h⟩:=zL h
  exact B6 (tH B5 6 [(some 6,2,3)] [0,1,2,3,4,6] [0] [0,2,4,6,9,51,52,53] (z<|oB 5 h7 k) (qS h))
  exact B6 (tH B5 5 [(some 6,2,3)] [0,1,2,3,4,6] [0] [0,2,4,6,9,51,52,53] (z<|oB 5 h7 k) (qS h))
  intro q2 p1 p2 v53 yB vO B3 r h
  rw[vE]at h
  have z {os ob} (k:Oz os ob):=oD (dT ([]:zQ))<|oD (dT p1.sub)<|oD (dT q2)<|k
  obtain⟨h8,h⟩|⟨h8,h⟩:=zL h
  obtain⟨x9,h10,h⟩:=zB h
  have k:=oA 0 (wN (o:=.no) h10)<|oB 0 h8 o0
  obtain⟨h11,h⟩|⟨h11,h⟩:=zL h
  have k:=oB 2 h11 k
  obtain⟨h12,h⟩|⟨h12,h⟩:=zL h
  obtain⟨r13,h14,h⟩:=zB h
  obtain⟨l15,h16,h⟩:=zB h
  exact fun j=>lH 2 [] [0,1,2,3,4,5] [1] [0,2,4,6,9,51,52,53] (oD (dT p1.sub)<|oD (dT l15)<|z<|oP 0 (sE h16 (by simp))<|oS 0 (xJ xM [r13.1])<|oC 1 [0,1,2] (I3 h14)<|oCl 1<|oB 1 h12 k) (qS h)
  obtain⟨r17,h18,h⟩:=zB h
  obtain⟨l19,h20,h⟩:=zB h
  exact fun j=>lH 2 [] [0,1,2,3,4,5] [1] [0,2,4,6,9,51,52,53] (oD (dT p1.sub)<|oD (dT l19)<|z<|oP 0 (sE h20 (by simp))<|oS 0 (xJ xM [r17.1])<|oC 1 [0,1,2] (I3 h18)<|oCl 0<|oB 1 h12 k) (qS h)
  obtain⟨r21,h22,h⟩:=zB h
  obtain⟨l23,h24,h⟩:=zB h
  exact fun j=>lH 2 [] [0,1,2,3,4,5] [1] [0,2,4,6,9,51,52,53] (oD (dT p1.sub)<|oD (dT l23)<|z<|oP 0 (sE h24 (by simp))<|oS 0 (xJ xM [r21.1])<|oC 1 [0,1,2] (I3 h22)<|oCl 0<|oB 2 h11 k) (qS h)
  cases h
  exact fun j=>lF 2 [0,1,2] (oD (dT B3)<|oD (dT q2)<|oB 0 h8 o0)
theorem zLM{qq q0 q1 q2 p1 p2 r}(h:qQ qq q0 q1 q2 p1 p2=some r):B4 q0 q1 q2 p1 p2 r Ct:=(dF _).1 h
def zAR(qq:Nat)(q0:Int)(q1:Bool)(q2:zQ):Option Unit:=
 some ()
theorem zPX{qq q0 q1 q2 r}(h:zAR qq q0 q1 q2=some r):Ct 82 [.cells [ai q0,ab q1,.val .nilFunc],.cells [zO zD q2 .no]] [.mp 0 0,.mp 1 0] (.clo 83 [] [.mp 1 0,.mp 2 0]) [.cells [ai q0,ab q1,.val .nilFunc],.cells [zO zD q2 .no],.cells [.mp 0 0]] 0:=⟨by
 unfold zAR at h
 cases h
 exact tF ⟨func82,rfl⟩ 0 [0,1,2] (oD (dT q2) o0),⟨(lz rfl),(lz rfl),tv⟩,(zC ⟨tv,tv,tv,tv⟩ (zC ⟨⟨tv,dT _⟩,tv⟩ zA)),⟨tv,⟨(lz rfl),(lz rfl),tv⟩⟩,(zC ⟨tv,tv,tv,tv⟩ (zC ⟨dT _,tv⟩ (zC ⟨(lz rfl),tv⟩ zA)))⟩
def B7(qq:Nat)(p0:Tm)(q1:zQ):Option (Tm×Int):=
 zAR qq 8192 false q1>>=fun r1=>
 qQ qq 8192 false q1 p0 0>>=fun r3=>
 if r3.2.2 then
 some ((Tm.mk 0 0 []),2)
 else
 G3 qq r3.1>>=fun r6=>
 if r6 then
 some (r3.1,0)
 else
 some ((Tm.mk 0 0 []),2)
theorem zAS:Qf 81 f81:=⟨func81,rfl⟩
theorem zPY{qq p0 q1 r}(h:B7 qq p0 q1=some r):Ct 81 [.cells [zO zD q1 .no]] [xF p0,.clo 82 [] [.mp 0 0]] (.tup [xF r.1,ai r.2]) [.cells [zO zD q1 .no]] 0:=⟨by
 unfold B7 at h
 obtain⟨r1,h2,h⟩:=zB h
 obtain⟨r3,h4,h⟩:=zB h
 have k:=oC 2 [3,0,4] (zLM h4)<|oC 0 [3,0] (zPX h2) o0
 obtain⟨h5,h⟩|⟨h5,h⟩:=zL h
 cases h
 exact tF zAS 1 [0] (oD (dT ([]:zQ))<|oD (dT q1)<|oB 1 h5 k)
 obtain⟨r6,h7,h⟩:=zB h
 have k:=oB 1 h5 k
 obtain⟨h8,h⟩|⟨h8,h⟩:=zL h
 cases h
 exact tF zAS 3 [0] (oD (dT r3.1.sub)<|oD (dT q1)<|oK 1 [] h8 (mO h7) k)
 cases h
 exact tF zAS 2 [0] (oD (dT ([]:zQ))<|oD (dT q1)<|oK 1 [] h8 (mO h7) k),⟨⟨tv,tv,⟨tv,dT _⟩,tv⟩,⟨tv,⟨(lz rfl),tv⟩⟩,tv⟩,(zC ⟨⟨tv,dT _⟩,tv⟩ zA),⟨⟨tv,tv,dT _,tv⟩,tv,tv⟩,(zC ⟨dT _,tv⟩ zA)⟩
def cY:Nat->Tm->zQ->Int->Option (Tm×Int)
 |0,_,_,_=>none
 |qq+1,p0,p1,v14=>
 if decide (v14<(p1.length:Int))then
 zR p1 v14>>=fun x5=>
 G3 qq x5>>=fun r7=>
 if r7 then
 cY qq p0 p1 (xL (v14+1))
 else
 some ((Tm.mk 0 0 []),5)
 else
 B7 qq p0 p1>>=fun r10=>
 some (r10.1,r10.2)
def e51(qq:Nat)(p0:Tm)(p1:zQ):Option (Tm×Int):=
 G3 qq p0>>=fun r1=>
 if r1 then
 cY qq p0 p1 0
 else
 some ((Tm.mk 0 0 []),5)
theorem q51:Qf 51 f51:=⟨func51,rfl⟩
theorem zTe:∀qq:Nat,(∀ {p0 p1 v14 r},cY qq p0 p1 v14=some r->(∀j,dL 0 (pt 4021 f51) (sp j 28 0 [(2,.mp 0 0),(3,.mp 1 0),(4,.mp 2 0),(12,zO zD p1 .no),(13,ai (p1.length:Int)),(14,ai v14)]) (⟨[(0,.cells [ai p0.k,ai p0.n,zO zD p0.sub .no]),(1,.cells [zO zD p1 .no]),(2,.cells [ai 0,ai 0,zO zD ([]:zQ) .nl])],3,[],0,[]⟩) (fQ 0 (nQ 0 f51 (.tup [xF r.1,ai r.2]) [] 0) [.blk 0,.seq (pt 63 f51)]))):=by
 intro qq
 induction qq with
 |zero=>
  exact fun h=>nn h
 |succ qq ih=>
  intro p0 p1 v14 r h
  rw[cY]at h
  obtain⟨h4,h⟩|⟨h4,h⟩:=zL h
  obtain⟨x5,h6,h⟩:=zB h
  obtain⟨r7,h8,h⟩:=zB h
  have k:=oA 0 (wN (o:=.no) h6)<|oB 0 h4 o0
  obtain⟨h9,h⟩|⟨h9,h⟩:=zL h
  exact fun j=>lH 2 [] [0,1,2] [] [2,3,4,12,13,14] (oD (dT p1)<|oD (dT ([]:zQ))<|oD (dT p1)<|oD (dT p0.sub)<|oK 3 [] h9 (mO h8) k) (ih h)
  cases h
  exact fun j=>lF 2 [] (oD (dT ([]:zQ))<|oK 3 [] h9 (mO h8) k)
  obtain⟨r10,h11,h⟩:=zB h
  cases h
  exact fun j=>lF 3 [] (oD (dT r10.1.sub)<|oC 1 [1] (zPY h11)<|oB 0 h4 o0)
theorem c51{qq p0 p1 r}(h:e51 qq p0 p1=some r):Ct 51 [] [xF p0,zO zD p1 .no] (.tup [xF r.1,ai r.2]) [] 0:=⟨by
 unfold e51 at h
 obtain⟨r1,h2,h⟩:=zB h
 obtain⟨h3,h⟩|⟨h3,h⟩:=zL h
 exact tH q51 3 [] [0,1,2] [] [2,3,4,12,13,14] (oD (dT p1)<|oD (dT ([]:zQ))<|oD (dT p1)<|oD (dT p0.sub)<|oK 1 [] h3 (mO h2) o0) (zTe _ h)
 cases h
 exact tF q51 2 [] (oD (dT ([]:zQ))<|oK 1 [] h3 (mO h2) o0),⟨⟨tv,tv,⟨tv,dT _⟩,tv⟩,⟨tv,dT _⟩,tv⟩,zA,⟨⟨tv,tv,dT _,tv⟩,tv,tv⟩,zA⟩
def zLN(qq:Nat)(p0 p1:Tm):Option (Tm×Int):=
 e51 qq p0 [p1]>>=fun r1=>
 some (r1.1,r1.2)
theorem zYb{qq p0 p1 r}(h:zLN qq p0 p1=some r):Ct 145 [] [xF p0,xF p1] (.tup [xF r.1,ai r.2]) [] 0:=⟨by
 unfold zLN at h
 obtain⟨r1,h2,h⟩:=zB h
 cases h
 exact tF ⟨func145,rfl⟩ 3 [] (oD (dT r1.1.sub)<|oC 0 [] (c51 h2)<|oS 2 (xJ xM [p1]) o0),⟨⟨tv,tv,⟨tv,dT _⟩,tv⟩,⟨tv,tv,⟨tv,dT _⟩,tv⟩,tv⟩,zA,⟨⟨tv,tv,dT _,tv⟩,tv,tv⟩,zA⟩
theorem j5:zT.Ok:=by unfold zT;rw[Tm.Ok,mN];simp
theorem vX(k n:Int):(Tm.mk k n []).Ok:=by rw[Tm.Ok,mN];simp
theorem zJi(ls:List Tm)(a:Tm)(b left:Int)(long:Bool)(ho:a.Ok)(hl:mF left long):zG (fun q=>B2 q left long ls a b) (raT a b left long):=by
 simp only[B2]
 have hs:=zCE a 0 (by omega) (by omega)
 have h1:=hl.1
 have h2:=hl.2.1
 refine(zGJ a ho).bind ?_
 rw[yM (x:=left-Z1 a 0) (by omega) (by omega)]
 unfold raT
 by_cases h:left-Z1 a 0<0
 ·rw[if_pos h];exact zG.ifT (decide_eq_true h) ((zAO 0).bind zG.ret)
 ·rw[if_neg h]
  refine zG.ifF (decide_eq_false h) ((zLK a b ho).bind ?_)
  by_cases h3:(uK a b 0).2≠0
  ·rw[if_pos h3];exact zG.ifT (by simpa using h3) ((zAO 0).bind zG.ret)
  ·rw[if_neg h3];exact zG.ifF (by simpa using h3) zG.ret
mutual
theorem O3(ls:List Tm):∀(t:Tm) (b left:Int) (long:Bool),mF left long->mF (aI ls t b left long).2.1 (aI ls t b left long).2.2
 | .mk kd n l,b,left,long,h=>by
  rw[aI]
  cases long with
  |true=>simpa using h
  |false=>
   rw[if_neg (by simp)]
   split
   ·split
    ·exact zLL h
    ·exact h
   ·have h0:=h.2.2 rfl
    have h1:=h.2.1
    refine zCT ls l kd 0 b _ _ ⟨by omega,by omega,fun h2=>?_⟩
    simp at h2;omega
theorem zCT(ls:List Tm):∀(l:List Tm) (kd:Int) (i:Nat) (b left:Int) (long:Bool),mF left long->mF (L9 ls l kd i b left long).2.1 (L9 ls l kd i b left long).2.2
 | [],kd,i,b,left,long,h=>by rw[L9];exact h
 |t::l,kd,i,b,left,long,h=>by
  rw[L9]
  exact zCT ls l kd (i+1) b _ _ (O3 ls t _ left long h)
end
theorem zGU(ls:List Tm):∀(l:List Tm) (kd:Int) (i:Nat) (b left:Int) (long:Bool),(L9 ls l kd i b left long).1.length=l.length
 | [],_,_,_,_,_=>by rw[L9]
 |t::l,kd,i,b,left,long=>by rw[L9];exact congrArg (· + 1) (zGU ls l kd (i+1) b _ _)
theorem zTd(a:Tm)(b left:Int)(long:Bool)(h:a.Ok):(raT a b left long).1.Ok:=by
 unfold raT
 split
 ·exact vX _ _
 ·split
  ·exact vX _ _
  ·exact fD a b 0 h
mutual
theorem zFz(ls:List Tm)(hls:∀a∈ls,a.Ok):∀(t:Tm) (b left:Int) (long:Bool),t.Ok->(aI ls t b left long).1.Ok
 | .mk kd n l,b,left,long,h=>by
  rw[aI]
  split
  ·exact vX _ _
  ·split
   ·split
    ·exact zTd _ _ _ _ (hls _ (List.getElem_mem _))
    ·exact vX _ _
   ·rw[Tm.Ok]at h ⊢
    rw[zGU]
    exact⟨h.1,zLO ls hls l kd 0 b _ _ h.2⟩
theorem zLO(ls:List Tm)(hls:∀a∈ls,a.Ok):∀(l:List Tm) (kd:Int) (i:Nat) (b left:Int) (long:Bool),mN l->mN (L9 ls l kd i b left long).1
 | [],_,_,_,_,_,_=>by rw[L9,mN];trivial
 |t::l,kd,i,b,left,long,h=>by
  rw[mN]at h
  rw[L9,mN]
  exact⟨zFz ls hls t _ _ _ h.1,zLO ls hls l kd (i+1) b _ _ h.2⟩
end
mutual
theorem zGV(ls:List Tm)(hls:∀a∈ls,a.Ok)(hlen:ls.length≤1152921504606846976):∀(t:Tm) (b left:Int) (long:Bool),xG t=true->0≤b->b+t.high≤1152921504606846976->mF left long->zG (fun q=>qQ q left long ls t b) (aI ls t b left long)
 | .mk kd n l,b,left,long,hg,hb,hb2,hl=>by
  refine zG.succ ?_
  simp only[qQ]
  have hh:=xV hg
  have hn:=cT hh.1
  rw[Tm.high]at hb2
  rw[aI]
  cases long with
  |true=>exact zG.ifT rfl ((zAO 0).bind (zG.ret.eq (by simp)))
  |false=>
   refine zG.ifF rfl ?_
   rw[if_neg (by simp)]
   have hloose:zG (fun q=>e84 q (.mk kd n l) b) (if kd=1∧b≤n then n-b else -1):=by
    refine zG.mk fun q=>?_
    unfold e84
    simp only[Tm.k,Tm.n]
    by_cases h1:kd=1
    ·by_cases h2:n<b
     ·simp[h1,h2,show ¬b≤n by omega]
     ·simp[h1,h2,show b≤n by omega]
      exact yM (by omega) (by omega)
    ·simp[h1]
   by_cases h1:kd=1∧b≤n
   ·rw[if_pos h1]at hloose ⊢
    have hleaf:zG (fun q=>jH q (.mk kd n l) b ls left false) (let r:=(if h:(n-b).toNat<ls.length then raT (ls[(n-b).toNat]) b left false else(.mk 1 (n-ls.length) [],left,false));(r.1,true,r.2.1,r.2.2)):=by
     simp only[jH]
     refine hloose.bind (zG.ifF (decide_eq_false (by omega)) ?_)
     by_cases h2:(n-b).toNat<ls.length
     ·rw[dif_pos h2]
      refine zG.ifT (decide_eq_true (by omega)) (zG.pure (a:=ls[(n-b).toNat]) ?_ ((zJi ls _ b left false (hls _ (List.getElem_mem _)) hl).bind zG.ret))
      unfold zR
      rw[if_pos (by omega)]
      exact List.getElem?_eq_getElem h2
     ·rw[dif_neg h2]
      refine zG.ifF (decide_eq_false (by omega)) ?_
      simp only[Tm.n]
      rw[yM (by omega) (by omega)]
      exact(I2 _).bind zG.ret
    exact hleaf.bind (zG.ifT rfl zG.ret)
   ·rw[if_neg h1]at hloose ⊢
    have hleaf:zG (fun q=>jH q (.mk kd n l) b ls left false) (.mk 0 0 [],false,left,false):=by
     simp only[jH]
     exact hloose.bind (zG.ifT rfl zG.ret)
    refine hleaf.bind (zG.ifF rfl ?_)
    have h0:=hl.2.2 rfl
    have h3:=hl.2.1
    rw[yM (x:=left-1) (by omega) (by omega)]
    have go:∀lg:Bool,lg=decide (left-1<0)->zG (fun q=>vE q ls (.mk kd n l) b 0 (left-1) lg []) (let r:=L9 ls l kd 0 b (left-1) (decide (left-1<0));(.mk kd n r.1,r.2.1,r.2.2)):=fun lg hlg=>by
     subst hlg
     refine(zLP ls hls hlen l (.mk kd n l) 0 b (left-1) _ [] rfl hh.2 (by have:=hn.2.2.2.2;exact this) hb (by omega) ⟨by omega,by omega,fun h2=>?_⟩ (by simp)).eq (by simp[Tm.k,Tm.n])
     simp at h2;omega
    by_cases h4:left-1<0
    ·exact zG.ifT (decide_eq_true h4) (go true (by simp[h4]))
    ·exact zG.ifF (decide_eq_false h4) (go false (by simp[h4]))
theorem zLP(ls:List Tm)(hls:∀a∈ls,a.Ok)(hlen:ls.length≤1152921504606846976):∀(l:List Tm) (p:Tm) (v:Nat) (b left:Int) (long:Bool) (acc:List Tm),p.sub.drop v=l->qF l=true->p.sub.length≤2->0≤b->b+1+pI l≤1152921504606846976->mF left long->acc.length≤v ->
  zG (fun q=>vE q ls p b (v:Int) left long acc) (.mk p.k p.n (acc++(L9 ls l p.k v b left long).1),(L9 ls l p.k v b left long).2.1,(L9 ls l p.k v b left long).2.2)
 | [],p,v,b,left,long,acc,hd,hg,hl2,hb,hb2,hl,ha=>by
  refine zG.succ ?_
  simp only[vE]
  exact zG.ifF (drop_nil hd) (zG.ret.eq (by rw[L9];simp))
 |t::l,p,v,b,left,long,acc,hd,hg,hl2,hb,hb2,hl,ha=>by
  have hlt:=yY hd
  have hgc:=wC hg
  rw[pI]at hb2
  refine zG.succ ?_
  simp only[vE]
  refine zG.ifT (yK hd) (zG.pure (yD hd) ?_)
  have next:∀x:Tm×Int×Bool,mF x.2.1 x.2.2->zG (fun q=>xQ 40 acc [x.1]>>=fun l15=>vE q ls p b (xL ((v:Int)+1)) x.2.1 x.2.2 l15)
    (.mk p.k p.n (acc++x.1::(L9 ls l p.k (v+1) b x.2.1 x.2.2).1),(L9 ls l p.k (v+1) b x.2.1 x.2.2).2.1,(L9 ls l p.k (v+1) b x.2.1 x.2.2).2.2):=fun x hx=>by
   refine zG.pure (xB (by simp<;>omega)) ?_
   rw[yE v (by omega)]
   exact(zLP ls hls hlen l p (v+1) b x.2.1 x.2.2 (acc++[x.1]) (zZ hd) hgc.2 hl2 hb (by omega) hx (by simp<;>omega)).eq (by simp)
  rw[L9]
  by_cases h1:v=1
  ·subst h1
   refine zG.ifT rfl ?_
   by_cases h5:p.k=5
   ·refine zG.ifF (by simp[h5]) ?_
    have e:xZ p.k 1 b=b:=by unfold xZ;simp[h5]
    rw[e]
    exact(zGV ls hls hlen t b left long hgc.1 hb (by omega) hl).bind (next _ (O3 ls t b left long hl))
   ·refine zG.ifT (by simp[h5]) ?_
    have e:xZ p.k 1 b=b+1:=by unfold xZ;simp[h5]
    rw[e,yM (x:=b+1) (by omega) (by omega)]
    exact(zGV ls hls hlen t (b+1) left long hgc.1 (by omega) (by omega) hl).bind (next _ (O3 ls t (b+1) left long hl))
  ·refine zG.ifF (by simp<;>omega) ?_
   have e:xZ p.k v b=b:=by unfold xZ;simp[h1]
   rw[e]
   exact(zGV ls hls hlen t b left long hgc.1 hb (by omega) hl).bind (next _ (O3 ls t b left long hl))
end
def oJ(t:Tm)(ls:List Tm):Tm×Int:=
 if zH t=true∧(ls.all zH)=true then
  (if (aI ls t 0 8192 false).2.2=true then(zT,2)else if zH (aI ls t 0 8192 false).1=true then((aI ls t 0 8192 false).1,0)else(zT,2))
 else(zT,5)
theorem zTc(t:Tm)(ls:List Tm)(h:zH t=true)(ho:t.Ok)(hls:∀a∈ls,a.Ok)(hlen:ls.length≤1152921504606846976) :
  zG (fun q=>B7 q t ls) (if (aI ls t 0 8192 false).2.2=true then(zT,2)else if zH (aI ls t 0 8192 false).1=true then((aI ls t 0 8192 false).1,0)else(zT,2)):=by
 simp only[B7]
 have hs:=zI h
 refine zG.bind (a:=()) (zG.mk fun _=>rfl) ((zGV ls hls hlen t 0 8192 false hs.2.2 (by omega) (by omega) ⟨by omega,by omega,fun _=>by omega⟩).bind ?_)
 by_cases h1:(aI ls t 0 8192 false).2.2=true
 ·rw[if_pos h1];exact zG.ifT h1 zG.ret
 ·rw[if_neg h1]
  refine zG.ifF (by simpa using h1) ((xR _ (zFz ls hls t 0 8192 false ho)).bind ?_)
  by_cases h2:zH (aI ls t 0 8192 false).1=true
  ·rw[if_pos h2,if_pos h2];exact zG.ret
  ·rw[if_neg h2,if_neg h2];exact zG.ret
theorem zCU(t:Tm)(ls:List Tm)(h:zH t=true)(ho:t.Ok)(hls:∀a∈ls,a.Ok)(hlen:ls.length≤1152921504606846976):∀(r:List Tm) (v:Nat),ls.drop v=r ->
  zG (fun q=>cY q t ls (v:Int)) (if (r.all zH)=true then(if (aI ls t 0 8192 false).2.2=true then(zT,2)else if zH (aI ls t 0 8192 false).1=true then((aI ls t 0 8192 false).1,0)else(zT,2))else(zT,5))
 | [],v,hd=>by
  refine zG.succ ?_
  simp only[cY]
  exact zG.ifF (drop_nil hd) ((zTc t ls h ho hls hlen).bind (zG.ret.eq (by simp)))
 |x::r,v,hd=>by
  have hlt:=yY hd
  have hx:x∈ls:=by
   have:x∈ls.drop v:=by rw[hd];simp
   exact List.mem_of_mem_drop this
  refine zG.succ ?_
  simp only[cY]
  refine zG.ifT (yK hd) (zG.pure (yD hd) ((xR x (hls x hx)).bind ?_))
  by_cases h1:zH x=true
  ·refine zG.ifT h1 ?_
   rw[yE v (by omega)]
   exact(zCU t ls h ho hls hlen r (v+1) (zZ hd)).eq (by simp[h1])
  ·exact zG.ifF (by simpa using h1) (zG.ret.eq (by simp[h1,zT]))
theorem O4(t:Tm)(ls:List Tm)(ho:t.Ok)(hls:∀a∈ls,a.Ok)(hlen:ls.length≤1152921504606846976):zG (fun q=>e51 q t ls) (oJ t ls):=by
 simp only[e51]
 refine(xR t ho).bind ?_
 unfold oJ
 by_cases h:zH t=true
 ·refine zG.ifT h ((zCU t ls h ho hls hlen ls 0 rfl).eq ?_)
  simp[h]
 ·exact zG.ifF (by simpa using h) (zG.ret.eq (by simp[h,zT]))
theorem zTb(t a:Tm)(ho:t.Ok)(ha:a.Ok):zG (fun q=>zLN q t a) (oJ t [a]):=by
 simp only[zLN]
 exact(O4 t [a] ho (by simpa using ha) (by simp)).bind zG.ret
theorem zGW(t:Tm)(ls:List Tm)(ho:t.Ok)(hls:∀a∈ls,a.Ok):(oJ t ls).1.Ok:=by
 unfold oJ
 split
 ·split
  ·exact j5
  ·split
   ·exact zFz ls hls t 0 8192 false ho
   ·exact j5
 ·exact j5
def jI:Nat->Int->Int->zQ->Int->Int->zQ->Option (zQ×Tm×Int)
 |0,_,_,_,_,_,_=>none
 |qq+1,p1,v25,v7,qT,oN,uM=>
 if decide (v25<p1)then
 if qT != 3 then
 some ([],(Tm.mk 0 0 []),6)
 else
 zR uM 0>>=fun x10=>
 xQ 40 v7 [x10]>>=fun l12=>
 zR uM 1>>=fun x14=>
 jI qq p1 (xL (v25+1)) l12 x14.k x14.n x14.sub
 else
 some (v7,(Tm.mk qT oN uM),0)
def U7(qq:Nat)(p0:Tm)(p1:Int):Option (zQ×Tm×Int):=
 G3 qq p0>>=fun r1=>
 if r1 then
 if decide (p1<0)then
 some ([],(Tm.mk 0 0 []),5)
 else
 if decide (p1>24)then
 some ([],(Tm.mk 0 0 []),2)
 else
 e26 qq p0>>=fun r6=>
 jI qq p1 0 [] r6.k r6.n r6.sub
 else
 some ([],(Tm.mk 0 0 []),5)
theorem zPZ:Qf 129 f129:=⟨func129,rfl⟩
theorem zQz:∀qq:Nat,(∀ {p1 v25 v7 qT oN uM r},jI qq p1 v25 v7 qT oN uM=some r->(∀j,dL 0 (pt 65461 f129) (sp j 45 0 [(5,.mp 0 0),(7,zO zD v7 (.st 0 3)),(8,.mp 1 0),(24,ai p1),(25,ai v25)]) (⟨[(0,.cells [ai 0,ai 0,zO zD ([]:zQ) .nl]),(1,.cells [ai qT,ai oN,zO zD uM .no])],2,[0],1,[]⟩) (fQ 0 (nQ 0 f129 (.tup [.sl (flat zD r.1) r.1.length .no,xF r.2.1,ai r.2.2]) [] 0) [.blk 1,.seq (pt 1023 f129)]))):=by
 intro qq
 induction qq with
 |zero=>
  exact fun h=>nn h
 |succ qq ih=>
  intro p1 v25 v7 qT oN uM r h
  rw[jI]at h
  obtain⟨h8,h⟩|⟨h8,h⟩:=zL h
  have k:=oB 0 h8 o0
  obtain⟨h9,h⟩|⟨h9,h⟩:=zL h
  cases h
  exact fun j=>lF 1 [] (oD (dT ([]:zQ))<|oD (dT ([]:zQ))<|oB 1 h9 k)
  obtain⟨x10,h11,h⟩:=zB h
  obtain⟨l12,h13,h⟩:=zB h
  obtain⟨x14,h15,h⟩:=zB h
  exact fun j=>lH 3 [] [0,1] [1] [5,7,8,24,25] (oD (dT l12)<|oD (dT x14.sub)<|oD (dT ([]:zQ))<|oA 1 (wN (o:=.no) h15)<|oP 0 (sE h13 (by simp))<|oS 1 (xJ xM [x10])<|oA 1 (wN (o:=.no) h11)<|oB 1 h9 k) (ih h)
  cases h
  exact fun j=>lF 2 [] (oD (dT uM)<|oD (dT v7)<|oB 0 h8 o0)
theorem zLQ{qq p0 p1 r}(h:U7 qq p0 p1=some r):Ct 129 [] [xF p0,ai p1] (.tup [.sl (flat zD r.1) r.1.length .no,xF r.2.1,ai r.2.2]) [] 0:=⟨by
 unfold U7 at h
 have z {os ob} (k:Oz os ob):=oD (dT ([]:zQ))<|oD (dT ([]:zQ))<|k
 obtain⟨r1,h2,h⟩:=zB h
 obtain⟨h3,h⟩|⟨h3,h⟩:=zL h
 have k:=oK 1 [] h3 (mO h2) o0
 obtain⟨h4,h⟩|⟨h4,h⟩:=zL h
 cases h
 exact tF zPZ 1 [] (z<|oB 1 h4 k)
 have k:=oB 1 h4 k
 obtain⟨h5,h⟩|⟨h5,h⟩:=zL h
 cases h
 exact tF zPZ 1 [] (z<|oB 0 h5 k)
 obtain⟨r6,h7,h⟩:=zB h
 exact tH zPZ 1 [(none,7,3)] [1,2] [0] [5,7,8,24,25] (oD (dT ([]:zQ))<|oD (dT r6.sub)<|oD (dT ([]:zQ))<|oC 1 [] (c26 h7)<|oB 0 h5 k) (zQz _ h)
 cases h
 exact tF zPZ 2 [] (z<|oK 1 [] h3 (mO h2) o0),⟨⟨tv,tv,⟨tv,dT _⟩,tv⟩,tv,tv⟩,zA,⟨dT _,⟨tv,tv,dT _,tv⟩,tv,tv⟩,zA⟩
def jJ:Nat->Tm->Int->Int->Int->zQ->Option (zQ×Tm×Int)
 |0,_,_,_,_,_=>none
 |qq+1,p0,v5,vA,uN,pJ=>
 if vA==3 then
 if (pJ.length:Int)==2 then
 if decide (v5≤24)then
 zR pJ 1>>=fun x4=>
 jJ qq p0 (xL (v5+1)) x4.k x4.n x4.sub
 else
 U7 qq p0 v5>>=fun r6=>
 some (r6.1,r6.2.1,r6.2.2)
 else
 U7 qq p0 v5>>=fun r8=>
 some (r8.1,r8.2.1,r8.2.2)
 else
 U7 qq p0 v5>>=fun r10=>
 some (r10.1,r10.2.1,r10.2.2)
def zCV(qq:Nat)(p0:Tm):Option (zQ×Tm×Int):=
 jJ qq p0 0 p0.k p0.n p0.sub
theorem zQy:∀qq:Nat,(∀ {p0 v5 vA uN pJ r},jJ qq p0 v5 vA uN pJ=some r->(∀j,dL 0 (pt 4021 f104) (sp j 34 0 [(1,.mp 0 0),(3,.mp 1 0),(5,ai v5),(6,.mp 2 0)]) (⟨[(0,.cells [ai p0.k,ai p0.n,zO zD p0.sub .no]),(1,.cells [ai 0,ai 0,zO zD ([]:zQ) .nl]),(2,.cells [ai vA,ai uN,zO zD pJ .no])],3,[],0,[]⟩) (fQ 0 (nQ 0 f104 (.tup [.sl (flat zD r.1) r.1.length .no,xF r.2.1,ai r.2.2]) [] 0) [.blk 0,.seq (pt 63 f104)]))):=by
 intro qq
 induction qq with
 |zero=>
  exact fun h=>nn h
 |succ qq ih=>
  intro p0 v5 vA uN pJ r h
  rw[jJ]at h
  obtain⟨h1,h⟩|⟨h1,h⟩:=zL h
  have k:=oB 1 h1 o0
  obtain⟨h2,h⟩|⟨h2,h⟩:=zL h
  have k:=oB 2 h2 k
  obtain⟨h3,h⟩|⟨h3,h⟩:=zL h
  obtain⟨x4,h5,h⟩:=zB h
  exact fun j=>lH 2 [] [0,1,3] [] [1,3,5,6] (oD (dT x4.sub)<|oD (dT ([]:zQ))<|oD (dT p0.sub)<|oA 4 (wN (o:=.no) h5)<|oB 0 h3 k) (ih h)
  obtain⟨r6,h7,h⟩:=zB h
  cases h
  exact fun j=>lF 4 [] (oD (dT r6.2.1.sub)<|oD (dT r6.1)<|oC 1 [] (zLQ h7)<|oB 0 h3 k)
  obtain⟨r8,h9,h⟩:=zB h
  cases h
  exact fun j=>lF 4 [] (oD (dT r8.2.1.sub)<|oD (dT r8.1)<|oC 1 [] (zLQ h9)<|oB 2 h2 k)
  obtain⟨r10,h11,h⟩:=zB h
  cases h
  exact fun j=>lF 4 [] (oD (dT r10.2.1.sub)<|oD (dT r10.1)<|oC 1 [] (zLQ h11)<|oB 1 h1 o0)
theorem zQx{qq p0 r}(h:zCV qq p0=some r):Ct 104 [] [xF p0] (.tup [.sl (flat zD r.1) r.1.length .no,xF r.2.1,ai r.2.2]) [] 0:=⟨by
 unfold zCV at h
 exact tH ⟨func104,rfl⟩ 2 [] [0,1,2] [] [1,3,5,6] (oD (dT p0.sub)<|oD (dT ([]:zQ))<|oD (dT p0.sub) o0) (zQy _ h),⟨⟨tv,tv,⟨tv,dT _⟩,tv⟩,tv⟩,zA,⟨dT _,⟨tv,tv,dT _,tv⟩,tv,tv⟩,zA⟩
def jK:Nat->Int->Int->(Tm×zQ)->Int->Option Bool
 |0,_,_,_,_=>none
 |qq+1,p2,p4,r1,v37=>
 if decide (v37<p2)then
 zR r1.2 v37>>=fun x7=>
 if x7.k != 1 then
 some false
 else
 if x7.n != (xL ((xL (p4-1))-v37))then
 some false
 else
 jK qq p2 p4 r1 (xL (v37+1))
 else
 some true
def zFy(qq:Nat)(p0:Tm)(p1 p2 p3 p4:Int):Option Bool:=
 e62 qq p0>>=fun r1=>
 if r1.1.k != 6 then
 some false
 else
 if r1.1.n != p1 then
 some false
 else
 if (r1.2.length:Int) != (xL (p2+p3))then
 some false
 else
 jK qq p2 p4 r1 0
theorem zQw:Qf 133 f133:=⟨func133,rfl⟩
theorem zQv:∀qq:Nat,(∀ {p2 p4 r1 v37 r},jK qq p2 p4 r1 v37=some r->(∀j,dL 0 (pt 16309 f133) (sp j 59 0 [(4,ai p4),(12,zO zD r1.2 .no),(36,ai p2),(37,ai v37)]) (⟨[],0,[],0,[]⟩) (fQ 0 (nQ 0 f133 (ab r) [] 0) [.blk 0,.seq (pt 255 f133)]))):=by
 intro qq
 induction qq with
 |zero=>
  exact fun h=>nn h
 |succ qq ih=>
  intro p2 p4 r1 v37 r h
  rw[jK]at h
  obtain⟨h6,h⟩|⟨h6,h⟩:=zL h
  obtain⟨x7,h8,h⟩:=zB h
  have k:=oA 0 (wN (o:=.no) h8)<|oB 0 h6 o0
  obtain⟨h9,h⟩|⟨h9,h⟩:=zL h
  cases h
  exact fun j=>lF 0 [] (oB 1 h9 k)
  have k:=oA 0 (wN (o:=.no) h8)<|oB 1 h9 k
  obtain⟨h10,h⟩|⟨h10,h⟩:=zL h
  cases h
  exact fun j=>lF 0 [] (oB 3 h10 k)
  exact fun j=>lH 1 [] [] [] [4,12,36,37] (oD (dT r1.2)<|oB 3 h10 k) (ih h)
  cases h
  exact fun j=>lF 0 [] (oB 0 h6 o0)
theorem zQu{qq p0 p1 p2 p3 p4 r}(h:zFy qq p0 p1 p2 p3 p4=some r):Ct 133 [] [xF p0,ai p1,ai p2,ai p3,ai p4] (ab r) [] 0:=⟨by
 unfold zFy at h
 obtain⟨r1,h2,h⟩:=zB h
 have k:=oC 1 [] (c62 h2) o0
 obtain⟨h3,h⟩|⟨h3,h⟩:=zL h
 cases h
 exact tF zQw 0 [] (oB 4 h3 k)
 have k:=oB 4 h3 k
 obtain⟨h4,h⟩|⟨h4,h⟩:=zL h
 cases h
 exact tF zQw 0 [] (oB 1 h4 k)
 have k:=oB 1 h4 k
 obtain⟨h5,h⟩|⟨h5,h⟩:=zL h
 cases h
 exact tF zQw 0 [] (oB 2 h5 k)
 exact tH zQw 0 [] [] [] [4,12,36,37] (oD (dT r1.2)<|oB 2 h5 k) (zQv _ h),⟨⟨tv,tv,⟨tv,dT _⟩,tv⟩,tv,tv,tv,tv,tv⟩,zA,tv,zA⟩
def kF:Nat->Tm->Option (List Tm×Tm)
 |0,t=>some ([],t)
 |n+1,.mk k _ [a,b]=>if k=3 then(kF n b).map fun r=>(a::r.1,r.2)else none
 |_+1,_=>none
theorem O5(n:Nat)(m:Int)(a b:Tm):kF (n+1) (.mk 3 m [a,b])=(kF n b).map fun r=>(a::r.1,r.2):=by rw[kF,if_pos rfl]
theorem B8{n:Nat}{t:Tm}(h:t.k≠3):kF (n+1) t=none:=by
 unfold kF
 split
 ·rename_i h1;cases h1
 ·rename_i h1;exact if_neg h
 ·rfl
theorem jL{t:Tm}(hg:xG t=true)(h:t.k=3):∃a b,t = .mk 3 t.n [a,b]∧xG a=true∧xG b=true:=by
 obtain⟨k,n,l⟩:=t
 have hh:=xV hg
 have hs:=wQ hh.1
 replace h:k=3:=h
 subst h
 obtain⟨a,b,rfl⟩:=zLE (hs.2.2.2.2.2.1 (.inl rfl)).1
 have hc:=wC hh.2
 exact⟨a,b,rfl,hc.1,(wC hc.2).1⟩
def zAT(acc:List Tm):Option (List Tm×Tm)->List Tm×Tm×Int
 |none=>([],zT,6)
 |some r=>(acc++r.1,r.2,0)
theorem zJh(N:Nat)(hN:N≤24):∀(m v:Nat) (acc:List Tm) (x:Tm),v+m=N->xG x=true->acc.length≤v->zG (fun q=>jI q (N:Int) (v:Int) acc x.k x.n x.sub) (zAT acc (kF m x)):=by
 intro m
 induction m with
 |zero=>
  intro v acc x hm hg ha
  refine zG.succ ?_
  simp only[jI]
  refine zG.ifF (decide_eq_false (by omega)) (zG.ret.eq ?_)
  rw[kF,zAT,uQ];simp
 |succ m ih=>
  intro v acc x hm hg ha
  refine zG.succ ?_
  simp only[jI]
  refine zG.ifT (decide_eq_true (by omega)) ?_
  by_cases h:x.k=3
  ·obtain⟨a,b,hx,hga,hgb⟩:=jL hg h
   refine zG.ifF (by simp[h]) ?_
   rw[hx,O5]
   refine zG.pure (a:=a) rfl (zG.pure (xB (by simp<;>omega)) (zG.pure (a:=b) rfl ?_))
   rw[yE v (by omega)]
   refine(ih (v+1) (acc++[a]) b (by omega) hgb (by simp<;>omega)).eq ?_
   cases kF m b<;>simp[zAT]
  ·rw[B8 h,zAT]
   exact zG.ifT (by simp[h]) zG.ret
def vY(t:Tm)(n:Int):List Tm×Tm×Int:=
 if zH t=true then(if n<0 then([],zT,5)else if n>24 then([],zT,2)else zAT [] (kF n.toNat t))else([],zT,5)
theorem B9(t:Tm)(n:Int)(ho:t.Ok):zG (fun q=>U7 q t n) (vY t n):=by
 simp only[U7]
 refine(xR t ho).bind ?_
 unfold vY
 by_cases h:zH t=true
 ·rw[if_pos h]
  refine zG.ifT h ?_
  by_cases h1:n<0
  ·rw[if_pos h1];exact zG.ifT (decide_eq_true h1) zG.ret
  ·rw[if_neg h1]
   refine zG.ifF (decide_eq_false h1) ?_
   by_cases h2:n>24
   ·rw[if_pos h2];exact zG.ifT (decide_eq_true h2) zG.ret
   ·rw[if_neg h2]
    refine zG.ifF (decide_eq_false h2) ((nJ t ho).bind ?_)
    unfold iZ
    rw[if_pos h]
    have:=zJh n.toNat (by omega) n.toNat 0 [] t (by omega) (zI h).2.2 (by simp)
    rw[show ((n.toNat:Nat):Int)=n by omega]at this
    exact this
 ·rw[if_neg h];exact zG.ifF (by simpa using h) zG.ret
def vZ:Tm->Nat
 | .mk k _ [_,b]=>if k=3 then vZ b+1 else 0
 |_=>0
theorem C0(m:Int)(a b:Tm):vZ (.mk 3 m [a,b])=vZ b+1:=by rw[vZ,if_pos rfl]
theorem zAU{t:Tm}(h:t.k≠3):vZ t=0:=by
 unfold vZ
 split
 ·exact if_neg h
 ·rfl
theorem zLR{t:Tm}(h:t.sub.length≠2):vZ t=0:=by
 unfold vZ
 split
 ·exact absurd rfl h
 ·rfl
def yR(t:Tm):List Tm×Tm×Int:=vY t ((min (vZ t) 25:Nat):Int)
theorem zJg(p:Tm)(ho:p.Ok):∀(m v:Nat) (x:Tm),v+m=25->zG (fun q=>jJ q p (v:Int) x.k x.n x.sub) (vY p ((min (v+vZ x) 25:Nat):Int)):=by
 intro m
 induction m with
 |zero=>
  intro v x hm
  refine zG.succ ?_
  simp only[jJ]
  have hv:v=25:=by omega
  subst hv
  have hsp:zG (fun q=>U7 q p ((25:Nat):Int)>>=fun r6=>some (r6.1,r6.2.1,r6.2.2)) (vY p ((min (25+vZ x) 25:Nat):Int)):=
   ((B9 p _ ho).bind zG.ret).eq (by rw[show min (25+vZ x) 25=25 by omega])
  exact zG.iff (fun _=>zG.iff (fun _=>zG.ifF rfl hsp) fun _=>hsp) fun _=>hsp
 |succ m ih=>
  intro v x hm
  refine zG.succ ?_
  simp only[jJ]
  have hsp:vZ x=0->zG (fun q=>U7 q p (v:Int)>>=fun r6=>some (r6.1,r6.2.1,r6.2.2)) (vY p ((min (v+vZ x) 25:Nat):Int)):=fun h=>
   ((B9 p _ ho).bind zG.ret).eq (by rw[h,show min (v+0) 25=v by omega])
  by_cases h3:x.k=3
  ·refine zG.ifT (by simp[h3]) ?_
   by_cases h2:x.sub.length=2
   ·refine zG.ifT (by simp[h2]) (zG.ifT (decide_eq_true (by omega)) ?_)
    obtain⟨k,n,l⟩:=x
    replace h3:k=3:=h3
    subst h3
    obtain⟨a,b,rfl⟩:=zLE h2
    refine zG.pure (a:=b) rfl ?_
    rw[yE v (by omega),C0]
    exact(ih (v+1) b (by omega)).eq (by rw[show v+1+vZ b=v+(vZ b+1) by omega])
   ·exact zG.ifF (by simp<;>omega) (hsp (zLR h2))
  ·exact zG.ifF (by simp[h3]) (hsp (zAU h3))
theorem C1(t:Tm)(ho:t.Ok):zG (fun q=>zCV q t) (yR t):=by
 simp only[zCV]
 exact(zJg t ho 25 0 t rfl).eq (by unfold yR;simp)
theorem j6:∀(n:Nat) (t:Tm) (r:List Tm×Tm),xG t=true->kF n t=some r->r.1.length=n∧vZ t=n+vZ r.2∧(xG r.2=true∧r.2.nodes≤t.nodes∧r.2.high≤t.high)∧∀x∈r.1,xG x=true∧x.nodes≤t.nodes∧x.high≤t.high
 |0,t,r,hg,h=>by
  rw[kF]at h;cases h
  exact⟨rfl,by simp,⟨hg,Nat.le_refl _,Nat.le_refl _⟩,fun x hx=>by cases hx⟩
 |n+1,t,r,hg,h=>by
  by_cases h3:t.k=3
  ·obtain⟨a,b,hx,hga,hgb⟩:=jL hg h3
   rw[hx]at h ⊢
   rw[O5]at h
   obtain⟨r',h1,rfl⟩:=Option.map_eq_some_iff.1 h
   have ih:=j6 n b r' hgb h1
   rw[C0]
   simp only[Tm.nodes,yN,Tm.high,pI]
   refine⟨by simp[ih.1],by omega,⟨ih.2.2.1.1,by omega,by omega⟩,fun x hx=>?_⟩
   rcases List.mem_cons.1 hx with rfl|hx
   ·exact⟨hga,by omega,by omega⟩
   ·have:=ih.2.2.2 x hx;exact⟨this.1,by omega,by omega⟩
  ·rw[B8 h3]at h;cases h
theorem j7{t:Tm}{n:Int}{l:List Tm}{y:Tm}(h:vY t n=(l,y,0)):zH t=true∧0≤n∧n≤24∧(l.length:Int)=n∧vZ t=l.length+vZ y∧zH y=true∧∀x∈l,zH x=true:=by
 unfold vY at h
 split at h
 ·rename_i hs
  split at h
  ·simp at h
  ·split at h
   ·simp at h
   ·cases hr:kF n.toNat t with
    |none=>rw[hr]at h;simp[zAT]at h
    |some r=>
     rw[hr]at h
     simp only[zAT,List.nil_append,Prod.mk.injEq,and_true]at h
     obtain⟨rfl,rfl⟩:=h
     have hsp:=zI hs
     have:=j6 _ _ _ hsp.2.2 hr
     refine⟨hs,by omega,by omega,by omega,by omega,mE (by omega) (by omega) this.2.2.1.1,fun x hx=>?_⟩
     have hx:=this.2.2.2 x hx
     exact mE (by omega) (by omega) hx.1
 ·simp at h
theorem rC{t:Tm}{l:List Tm}{y:Tm}(h:yR t=(l,y,0)):zH t=true∧l.length=vZ t∧l.length≤24∧vZ y=0∧zH y=true∧∀x∈l,zH x=true:=by
 have:=j7 h
 refine⟨this.1,by omega,by omega,by omega,this.2.2.2.2.2.1,this.2.2.2.2.2.2⟩
def zCW:List Tm->Int->Bool
 | [],_=>true
 |a::l,n=>a.k==1&&a.n==n&&zCW l (n-1)
def qU(t:Tm)(of pars more binders:Int):Bool:=
 (zN t).k==6&&(zN t).n==of&&((yG t).length:Int)==pars+more&&zCW ((yG t).take pars.toNat) (binders-1)
theorem zCX(p:Tm×List Tm)(P:Nat)(binders:Int)(hP:P≤p.2.length)(hl:p.2.length≤8192)(hb:-1152921504606846976≤binders∧binders≤1152921504606846976):∀(m v:Nat),v+m=P ->
  zG (fun q=>jK q (P:Int) binders p (v:Int)) (zCW ((p.2.take P).drop v) (binders-1-v)):=by
 intro m
 induction m with
 |zero=>
  intro v hm
  refine zG.succ ?_
  simp only[jK]
  refine zG.ifF (decide_eq_false (by omega)) (zG.ret.eq ?_)
  rw[List.drop_eq_nil_of_le (by simp<;>omega),zCW]
 |succ m ih=>
  intro v hm
  refine zG.succ ?_
  simp only[jK]
  have hv:v<(p.2.take P).length:=by simp<;>omega
  have hd:=List.drop_eq_getElem_cons hv
  have hg:zR p.2 (v:Int)=some (p.2.take P)[v]:=by
   unfold zR
   rw[if_pos (by omega),show (v:Int).toNat=v by omega,List.getElem?_eq_getElem (by omega)]
   simp
  generalize (p.2.take P)[v]=x at hd hg
  refine zG.ifT (decide_eq_true (by omega)) (zG.pure hg ?_)
  rw[hd,zCW,yM (x:=binders-1) (by omega) (by omega),yM (x:=binders-1-v) (by omega) (by omega)]
  by_cases h1:x.k=1
  ·refine zG.ifF (by simp[h1]) ?_
   by_cases h2:x.n=binders-1-v
   ·refine zG.ifF (by simp[h2]) ?_
    rw[yE v (by omega)]
    refine(ih (v+1) (by omega)).eq ?_
    rw[show binders-1-((v+1:Nat):Int)=binders-1-v-1 by omega]
    simp[h1,h2]
   ·exact zG.ifT (by simp[h2]) (zG.ret.eq (by simp[h2]))
  ·exact zG.ifT (by simp[h1]) (zG.ret.eq (by simp[h1]))
theorem cZ(t:Tm)(of pars more binders:Int)(hs:zH t=true)(h0:0≤pars∧pars≤1152921504606846976)(h1:0≤more∧more≤1152921504606846976)(hb:-1152921504606846976≤binders∧binders≤1152921504606846976) :
  zG (fun q=>zFy q t of pars more binders) (qU t of pars more binders):=by
 simp only[zFy]
 refine(oI t hs).bind ?_
 unfold qU
 by_cases h2:(zN t).k=6
 ·refine zG.ifF (by simp[h2]) ?_
  by_cases h3:(zN t).n=of
  ·refine zG.ifF (by simp[h3]) ?_
   rw[yM (x:=pars+more) (by omega) (by omega)]
   by_cases h4:((yG t).length:Int)=pars+more
   ·refine zG.ifF (by simp[h4]) ?_
    have hl:=sB t (zI hs).2.2
    have hn:=(zI hs).1
    have:=zCX (zN t,yG t) pars.toNat binders (by show _≤(yG t).length;omega) (by show (yG t).length≤_;omega) hb pars.toNat 0 (by omega)
    rw[show ((pars.toNat:Nat):Int)=pars by omega]at this
    exact this.eq (by simp[h2,h3,h4])
   ·exact zG.ifT (by simp[h4]) (zG.ret.eq (by simp[h4]))
  ·exact zG.ifT (by simp[h3]) (zG.ret.eq (by simp[h3]))
 ·exact zG.ifT (by simp[h2]) (zG.ret.eq (by simp[h2]))
def zJf(qq:Nat)(p0:Int):Option Bool:=
 if decide (p0≥0)then
 if decide (p0≤1114111)then
 if decide (p0<55296)then
 some true
 else
 some (decide (p0>57343))
 else
 some false
 else
 some false
theorem zQt:Qf 152 f152:=⟨func152,rfl⟩
theorem zQs{qq p0 r}(h:zJf qq p0=some r):Ct 152 [] [ai p0] (ab r) [] 0:=⟨by
 unfold zJf at h
 obtain⟨h1,h⟩|⟨h1,h⟩:=zL h
 have k:=oB 0 h1 o0
 obtain⟨h2,h⟩|⟨h2,h⟩:=zL h
 have k:=oB 0 h2 k
 obtain⟨h3,h⟩|⟨h3,h⟩:=zL h
 cases h
 exact tF zQt 0 [] (oB 0 h3 k)
 cases h
 exact tF zQt 1 [] (oB 0 h3 k)
 cases h
 exact tF zQt 0 [] (oB 0 h2 k)
 cases h
 exact tF zQt 0 [] (oB 0 h1 o0),⟨tv,tv⟩,zA,tv,zA⟩
def zLS(qq:Nat)(p0:U8):Option (Int×Int):=
 if decide (p0<128)then
 some (1,(xL (p0)))
 else
 if decide (p0≥192)then
 if decide (p0<224)then
 some (2,(xL ((IntKind.u8.wrap ((BitVec.ofInt (IntKind.bits .u8) p0 &&& BitVec.ofInt (IntKind.bits .u8) 31).toNat:Nat)))))
 else
 if decide (p0≥224)then
 if decide (p0<240)then
 some (3,(xL ((IntKind.u8.wrap ((BitVec.ofInt (IntKind.bits .u8) p0 &&& BitVec.ofInt (IntKind.bits .u8) 15).toNat:Nat)))))
 else
 if decide (p0≥240)then
 if decide (p0<248)then
 some (4,(xL ((IntKind.u8.wrap ((BitVec.ofInt (IntKind.bits .u8) p0 &&& BitVec.ofInt (IntKind.bits .u8) 7).toNat:Nat)))))
 else
 some (0,0)
 else
 some (0,0)
 else
 if decide (p0≥240)then
 if decide (p0<248)then
 some (4,(xL ((IntKind.u8.wrap ((BitVec.ofInt (IntKind.bits .u8) p0 &&& BitVec.ofInt (IntKind.bits .u8) 7).toNat:Nat)))))
 else
 some (0,0)
 else
 some (0,0)
 else
 if decide (p0≥224)then
 if decide (p0<240)then
 some (3,(xL ((IntKind.u8.wrap ((BitVec.ofInt (IntKind.bits .u8) p0 &&& BitVec.ofInt (IntKind.bits .u8) 15).toNat:Nat)))))
 else
 if decide (p0≥240)then
 if decide (p0<248)then
 some (4,(xL ((IntKind.u8.wrap ((BitVec.ofInt (IntKind.bits .u8) p0 &&& BitVec.ofInt (IntKind.bits .u8) 7).toNat:Nat)))))
 else
 some (0,0)
 else
 some (0,0)
 else
 if decide (p0≥240)then
 if decide (p0<248)then
 some (4,(xL ((IntKind.u8.wrap ((BitVec.ofInt (IntKind.bits .u8) p0 &&& BitVec.ofInt (IntKind.bits .u8) 7).toNat:Nat)))))
 else
 some (0,0)
 else
 some (0,0)
theorem dG:Qf 175 f175:=⟨func175,rfl⟩
theorem zYa{qq p0 r}(h:zLS qq p0=some r):Ct 175 [] [.val (.int .u8 p0)] (.tup [ai r.1,ai r.2]) [] 0:=⟨by
 unfold zLS at h
 obtain⟨h1,h⟩|⟨h1,h⟩:=zL h
 cases h
 exact tF dG 1 [] (oB 0 h1 o0)
 have k:=oB 0 h1 o0
 obtain⟨h2,h⟩|⟨h2,h⟩:=zL h
 have k:=oB 0 h2 k
 obtain⟨h3,h⟩|⟨h3,h⟩:=zL h
 cases h
 exact tF dG 2 [] (oB 0 h3 k)
 have k:=oB 0 h3 k
 obtain⟨h4,h⟩|⟨h4,h⟩:=zL h
 have k:=oB 0 h4 k
 obtain⟨h5,h⟩|⟨h5,h⟩:=zL h
 cases h
 exact tF dG 2 [] (oB 0 h5 k)
 have k:=oB 0 h5 k
 obtain⟨h6,h⟩|⟨h6,h⟩:=zL h
 have k:=oB 0 h6 k
 obtain⟨h7,h⟩|⟨h7,h⟩:=zL h
 cases h
 exact tF dG 2 [] (oB 0 h7 k)
 cases h
 exact tF dG 0 [] (oB 0 h7 k)
 cases h
 exact tF dG 0 [] (oB 0 h6 k)
 have k:=oB 0 h4 k
 obtain⟨h8,h⟩|⟨h8,h⟩:=zL h
 have k:=oB 0 h8 k
 obtain⟨h9,h⟩|⟨h9,h⟩:=zL h
 cases h
 exact tF dG 2 [] (oB 0 h9 k)
 cases h
 exact tF dG 0 [] (oB 0 h9 k)
 cases h
 exact tF dG 0 [] (oB 0 h8 k)
 have k:=oB 0 h2 k
 obtain⟨h10,h⟩|⟨h10,h⟩:=zL h
 have k:=oB 0 h10 k
 obtain⟨h11,h⟩|⟨h11,h⟩:=zL h
 cases h
 exact tF dG 2 [] (oB 0 h11 k)
 have k:=oB 0 h11 k
 obtain⟨h12,h⟩|⟨h12,h⟩:=zL h
 have k:=oB 0 h12 k
 obtain⟨h13,h⟩|⟨h13,h⟩:=zL h
 cases h
 exact tF dG 2 [] (oB 0 h13 k)
 cases h
 exact tF dG 0 [] (oB 0 h13 k)
 cases h
 exact tF dG 0 [] (oB 0 h12 k)
 have k:=oB 0 h10 k
 obtain⟨h14,h⟩|⟨h14,h⟩:=zL h
 have k:=oB 0 h14 k
 obtain⟨h15,h⟩|⟨h15,h⟩:=zL h
 cases h
 exact tF dG 2 [] (oB 0 h15 k)
 cases h
 exact tF dG 0 [] (oB 0 h15 k)
 cases h
 exact tF dG 0 [] (oB 0 h14 k),⟨tv,tv⟩,zA,⟨tv,tv,tv⟩,zA⟩
def zLT(qq:Nat)(p0:Int):Option Int:=
 if decide (p0≥65536)then
 some 4
 else
 if decide (p0≥2048)then
 some 3
 else
 if decide (p0≥128)then
 some 2
 else
 some 1
theorem zQr:Qf 176 f176:=⟨func176,rfl⟩
theorem zYA{qq p0 r}(h:zLT qq p0=some r):Ct 176 [] [ai p0] (ai r) [] 0:=⟨by
 unfold zLT at h
 obtain⟨h1,h⟩|⟨h1,h⟩:=zL h
 cases h
 exact tF zQr 3 [] (oB 0 h1 o0)
 have k:=oB 0 h1 o0
 obtain⟨h2,h⟩|⟨h2,h⟩:=zL h
 cases h
 exact tF zQr 2 [] (oB 0 h2 k)
 have k:=oB 0 h2 k
 obtain⟨h3,h⟩|⟨h3,h⟩:=zL h
 cases h
 exact tF zQr 1 [] (oB 0 h3 k)
 cases h
 exact tF zQr 0 [] (oB 0 h3 k),⟨tv,tv⟩,zA,tv,zA⟩
def jM:Nat->ByteArray->Int->(Int×Int)->Int->Int->Option (Int×Int×Int)
 |0,_,_,_,_,_=>none
 |qq+1,p0,p1,r5,v8,v9=>
 if decide (v9<r5.1)then
 T5 p0 (xL (p1+v9))>>=fun x10=>
 if (IntKind.u8.wrap ((BitVec.ofInt (IntKind.bits .u8) x10 &&& BitVec.ofInt (IntKind.bits .u8) 192).toNat:Nat)) != 128 then
 some (0,0,1)
 else
 jM qq p0 p1 r5 (IntKind.i64.wrap ((BitVec.ofInt (IntKind.bits .i64) (xL (v8*2 ^ (min (Int.toNat 6) (IntKind.bits .i64)))) ||| BitVec.ofInt (IntKind.bits .i64) (xL ((IntKind.u8.wrap ((BitVec.ofInt (IntKind.bits .u8) x10 &&& BitVec.ofInt (IntKind.bits .u8) 63).toNat:Nat))))).toNat:Nat)) (xL (v9+1))
 else
 zJf qq v8>>=fun r13=>
 if r13 then
 zLT qq v8>>=fun r16=>
 if r16 != r5.1 then
 some (0,0,1)
 else
 some (v8,r5.1,0)
 else
 some (0,0,1)
def zLU(qq:Nat)(p0:ByteArray)(p1:Int):Option (Int×Int×Int):=
 if decide (p1<0)then
 some (0,0,1)
 else
 if decide (p1≥(p0.size:Int))then
 some (0,0,1)
 else
 T5 p0 p1>>=fun x3=>
 zLS qq x3>>=fun r5=>
 if r5.1==0 then
 some (0,0,1)
 else
 if decide (r5.1>(xL ((p0.size:Int)-p1)))then
 some (0,0,1)
 else
 jM qq p0 p1 r5 r5.2 1
theorem zLV:Qf 150 f150:=⟨func150,rfl⟩
theorem zQq:∀qq:Nat,(∀ {p0 p1 r5 v8 v9 r},jM qq p0 p1 r5 v8 v9=some r->(∀j,dL 0 (pt 65461 f150) (sp j 66 0 [(0,at' p0),(1,ai p1),(7,ai r5.1),(8,ai v8),(9,ai v9)]) (⟨[],0,[],0,[]⟩) (fQ 0 (nQ 0 f150 (.tup [ai r.1,ai r.2.1,ai r.2.2]) [] 0) [.blk 0,.seq (pt 1023 f150)]))):=by
 intro qq
 induction qq with
 |zero=>
  exact fun h=>nn h
 |succ qq ih=>
  intro p0 p1 r5 v8 v9 r h
  rw[jM]at h
  obtain⟨h9,h⟩|⟨h9,h⟩:=zL h
  obtain⟨x10,h11,h⟩:=zB h
  have k:=oA 1 (zLm h11)<|oB 0 h9 o0
  obtain⟨h12,h⟩|⟨h12,h⟩:=zL h
  cases h
  exact fun j=>lF 0 [] (oB 1 h12 k)
  exact fun j=>lH 5 [] [] [] [0,1,7,8,9] (oB 1 h12 k) (ih h)
  obtain⟨r13,h14,h⟩:=zB h
  have k:=oB 0 h9 o0
  obtain⟨h15,h⟩|⟨h15,h⟩:=zL h
  obtain⟨r16,h17,h⟩:=zB h
  have k:=oC 1 [] (zYA h17)<|oK 0 [] h15 (zQs h14) k
  obtain⟨h18,h⟩|⟨h18,h⟩:=zL h
  cases h
  exact fun j=>lF 0 [] (oB 0 h18 k)
  cases h
  exact fun j=>lF 0 [] (oB 0 h18 k)
  cases h
  exact fun j=>lF 1 [] (oK 0 [] h15 (zQs h14) k)
theorem zYB{qq p0 p1 r}(h:zLU qq p0 p1=some r):Ct 150 [] [at' p0,ai p1] (.tup [ai r.1,ai r.2.1,ai r.2.2]) [] 0:=⟨by
 unfold zLU at h
 obtain⟨h1,h⟩|⟨h1,h⟩:=zL h
 cases h
 exact tF zLV 0 [] (oB 0 h1 o0)
 have k:=oB 0 h1 o0
 obtain⟨h2,h⟩|⟨h2,h⟩:=zL h
 cases h
 exact tF zLV 0 [] (oB 1 h2 k)
 obtain⟨x3,h4,h⟩:=zB h
 obtain⟨r5,h6,h⟩:=zB h
 have k:=oC 0 [] (zYa h6)<|oA 0 (zLm h4)<|oB 1 h2 k
 obtain⟨h7,h⟩|⟨h7,h⟩:=zL h
 cases h
 exact tF zLV 0 [] (oB 2 h7 k)
 have k:=oB 2 h7 k
 obtain⟨h8,h⟩|⟨h8,h⟩:=zL h
 cases h
 exact tF zLV 0 [] (oB 2 h8 k)
 exact tH zLV 0 [] [] [] [0,1,7,8,9] (oB 2 h8 k) (zQq _ h),⟨tv,tv,tv⟩,zA,⟨tv,tv,tv,tv⟩,zA⟩
def jN:Nat->ByteArray->yV->Int->Option (yV×Int×Int)
 |0,_,_,_=>none
 |qq+1,p0,v5,v6=>
 if decide (v6<(p0.size:Int))then
 zLU qq p0 v6>>=fun r3=>
 if r3.2.2 != 0 then
 some ([],v6,r3.2.2)
 else
 xQ 8 v5 [r3.1]>>=fun l6=>
 jN qq p0 l6 (xL (v6+r3.2.1))
 else
 some (v5,(p0.size:Int),0)
def zLW(qq:Nat)(p0:ByteArray):Option (yV×Int×Int):=
 if decide ((p0.size:Int)>65535)then
 some ([],0,2)
 else
 jN qq p0 [] 0
theorem zWl:Qf 124 f124:=⟨func124,rfl⟩
theorem zQp:∀qq:Nat,(∀ {p0 v5 v6 r},jN qq p0 v5 v6=some r->(∀j,dL 0 (pt 16309 f124) (sp j 38 0 [(0,at' p0),(5,zO yH v5 (.st 0 1)),(6,ai v6)]) (⟨[],0,[0],1,[]⟩) (fQ 0 (nQ 0 f124 (.tup [.sl (flat yH r.1) r.1.length .no,ai r.2.1,ai r.2.2]) [] 0) [.blk 0,.seq (pt 255 f124)]))):=by
 intro qq
 induction qq with
 |zero=>
  exact fun h=>nn h
 |succ qq ih=>
  intro p0 v5 v6 r h
  rw[jN]at h
  obtain⟨h2,h⟩|⟨h2,h⟩:=zL h
  obtain⟨r3,h4,h⟩:=zB h
  have k:=oC 0 [] (zYB h4)<|oB 1 h2 o0
  obtain⟨h5,h⟩|⟨h5,h⟩:=zL h
  cases h
  exact fun j=>lF 0 [] (oD (dI ([]:yV))<|oB 3 h5 k)
  obtain⟨l6,h7,h⟩:=zB h
  exact fun j=>lH 1 [] [] [1] [0,5,6] (oD (dI l6)<|oP 1 (kB h7 (by simp))<|oB 3 h5 k) (ih h)
  cases h
  exact fun j=>lF 1 [] (oD (dI v5)<|oB 1 h2 o0)
theorem zYC{qq p0 r}(h:zLW qq p0=some r):Ct 124 [] [at' p0] (.tup [.sl (flat yH r.1) r.1.length .no,ai r.2.1,ai r.2.2]) [] 0:=⟨by
 unfold zLW at h
 obtain⟨h1,h⟩|⟨h1,h⟩:=zL h
 cases h
 exact tF zWl 0 [] (oD (dI ([]:yV))<|oB 1 h1 o0)
 exact tH zWl 0 [(none,5,1)] [] [0] [0,5,6] (oD (dI ([]:yV))<|oB 1 h1 o0) (zQp _ h),⟨tv,tv⟩,zA,⟨dI _,tv,tv,tv⟩,zA⟩
def zLX(qq:Nat)(p0:ByteArray):Option Bool:=
 if p0.toList==(⟨#[100,97,116,97]⟩:ByteArray).toList then
 some true
 else
 if p0.toList==(⟨#[114,101,99,111,114,100]⟩:ByteArray).toList then
 some true
 else
 if p0.toList==(⟨#[100,101,102]⟩:ByteArray).toList then
 some true
 else
 if p0.toList==(⟨#[83,101,116]⟩:ByteArray).toList then
 some true
 else
 some false
theorem zLY:Qf 125 f125:=⟨func125,rfl⟩
theorem zWk{qq p0 r}(h:zLX qq p0=some r):Ct 125 [] [at' p0] (ab r) [] 0:=⟨by
 unfold zLX at h
 obtain⟨h1,h⟩|⟨h1,h⟩:=zL h
 cases h
 exact tF zLY 0 [] (oB 0 h1 o0)
 have k:=oB 0 h1 o0
 obtain⟨h2,h⟩|⟨h2,h⟩:=zL h
 cases h
 exact tF zLY 0 [] (oB 0 h2 k)
 have k:=oB 0 h2 k
 obtain⟨h3,h⟩|⟨h3,h⟩:=zL h
 cases h
 exact tF zLY 0 [] (oB 0 h3 k)
 have k:=oB 0 h3 k
 obtain⟨h4,h⟩|⟨h4,h⟩:=zL h
 cases h
 exact tF zLY 0 [] (oB 0 h4 k)
 cases h
 exact tF zLY 0 [] (oB 0 h4 k),⟨tv,tv⟩,zA,tv,zA⟩
def zLZ(qq:Nat)(p0:Int):Option Bool:=
 if p0==40 then
 some true
 else
 if p0==41 then
 some true
 else
 if p0==123 then
 some true
 else
 if p0==125 then
 some true
 else
 if p0==58 then
 some true
 else
 if p0==61 then
 some true
 else
 if p0==46 then
 some true
 else
 if p0==44 then
 some true
 else
 if p0==59 then
 some true
 else
 if p0==124 then
 some true
 else
 if p0==92 then
 some true
 else
 if p0==45 then
 some true
 else
 if p0==62 then
 some true
 else
 if p0==955 then
 some true
 else
 if p0==8594 then
 some true
 else
 some false
theorem dH:Qf 153 f153:=⟨func153,rfl⟩
theorem zWj{qq p0 r}(h:zLZ qq p0=some r):Ct 153 [] [ai p0] (ab r) [] 0:=⟨by
 unfold zLZ at h
 obtain⟨h1,h⟩|⟨h1,h⟩:=zL h
 cases h
 exact tF dH 0 [] (oB 0 h1 o0)
 have k:=oB 0 h1 o0
 obtain⟨h2,h⟩|⟨h2,h⟩:=zL h
 cases h
 exact tF dH 0 [] (oB 0 h2 k)
 have k:=oB 0 h2 k
 obtain⟨h3,h⟩|⟨h3,h⟩:=zL h
 cases h
 exact tF dH 0 [] (oB 0 h3 k)
 have k:=oB 0 h3 k
 obtain⟨h4,h⟩|⟨h4,h⟩:=zL h
 cases h
 exact tF dH 0 [] (oB 0 h4 k)
 have k:=oB 0 h4 k
 obtain⟨h5,h⟩|⟨h5,h⟩:=zL h
 cases h
 exact tF dH 0 [] (oB 0 h5 k)
 have k:=oB 0 h5 k
 obtain⟨h6,h⟩|⟨h6,h⟩:=zL h
 cases h
 exact tF dH 0 [] (oB 0 h6 k)
 have k:=oB 0 h6 k
 obtain⟨h7,h⟩|⟨h7,h⟩:=zL h
 cases h
 exact tF dH 0 [] (oB 0 h7 k)
 have k:=oB 0 h7 k
 obtain⟨h8,h⟩|⟨h8,h⟩:=zL h
 cases h
 exact tF dH 0 [] (oB 0 h8 k)
 have k:=oB 0 h8 k
 obtain⟨h9,h⟩|⟨h9,h⟩:=zL h
 cases h
 exact tF dH 0 [] (oB 0 h9 k)
 have k:=oB 0 h9 k
 obtain⟨h10,h⟩|⟨h10,h⟩:=zL h
 cases h
 exact tF dH 0 [] (oB 0 h10 k)
 have k:=oB 0 h10 k
 obtain⟨h11,h⟩|⟨h11,h⟩:=zL h
 cases h
 exact tF dH 0 [] (oB 0 h11 k)
 have k:=oB 0 h11 k
 obtain⟨h12,h⟩|⟨h12,h⟩:=zL h
 cases h
 exact tF dH 0 [] (oB 0 h12 k)
 have k:=oB 0 h12 k
 obtain⟨h13,h⟩|⟨h13,h⟩:=zL h
 cases h
 exact tF dH 0 [] (oB 0 h13 k)
 have k:=oB 0 h13 k
 obtain⟨h14,h⟩|⟨h14,h⟩:=zL h
 cases h
 exact tF dH 0 [] (oB 0 h14 k)
 have k:=oB 0 h14 k
 obtain⟨h15,h⟩|⟨h15,h⟩:=zL h
 cases h
 exact tF dH 0 [] (oB 0 h15 k)
 cases h
 exact tF dH 0 [] (oB 0 h15 k),⟨tv,tv⟩,zA,tv,zA⟩
def zJe(qq:Nat)(p0:Int):Option Bool:=
 if decide (p0<128)then
 if decide (p0≥97)then
 if decide (p0≤122)then
 some true
 else
 if decide (p0≥65)then
 some (decide (p0≤90))
 else
 some false
 else
 if decide (p0≥65)then
 some (decide (p0≤90))
 else
 some false
 else
 zJf qq p0>>=fun r6=>
 if r6 then
 zLZ qq p0>>=fun r9=>
 if r9 then
 some false
 else
 if p0 != 160 then
 if decide (p0<8192)then
 some true
 else
 some (decide (p0>8303))
 else
 some false
 else
 some false
theorem w7:Qf 127 f127:=⟨func127,rfl⟩
theorem zQo{qq p0 r}(h:zJe qq p0=some r):Ct 127 [] [ai p0] (ab r) [] 0:=⟨by
 unfold zJe at h
 obtain⟨h1,h⟩|⟨h1,h⟩:=zL h
 have k:=oB 0 h1 o0
 obtain⟨h2,h⟩|⟨h2,h⟩:=zL h
 have k:=oB 0 h2 k
 obtain⟨h3,h⟩|⟨h3,h⟩:=zL h
 cases h
 exact tF w7 0 [] (oB 0 h3 k)
 have k:=oB 0 h3 k
 obtain⟨h4,h⟩|⟨h4,h⟩:=zL h
 cases h
 exact tF w7 1 [] (oB 0 h4 k)
 cases h
 exact tF w7 0 [] (oB 0 h4 k)
 have k:=oB 0 h2 k
 obtain⟨h5,h⟩|⟨h5,h⟩:=zL h
 cases h
 exact tF w7 1 [] (oB 0 h5 k)
 cases h
 exact tF w7 0 [] (oB 0 h5 k)
 obtain⟨r6,h7,h⟩:=zB h
 have k:=oB 0 h1 o0
 obtain⟨h8,h⟩|⟨h8,h⟩:=zL h
 obtain⟨r9,h10,h⟩:=zB h
 have k:=oK 0 [] h8 (zQs h7) k
 obtain⟨h11,h⟩|⟨h11,h⟩:=zL h
 cases h
 exact tF w7 1 [] (oK 0 [] h11 (zWj h10) k)
 have k:=oK 0 [] h11 (zWj h10) k
 obtain⟨h12,h⟩|⟨h12,h⟩:=zL h
 have k:=oB 1 h12 k
 obtain⟨h13,h⟩|⟨h13,h⟩:=zL h
 cases h
 exact tF w7 0 [] (oB 0 h13 k)
 cases h
 exact tF w7 1 [] (oB 0 h13 k)
 cases h
 exact tF w7 0 [] (oB 1 h12 k)
 cases h
 exact tF w7 0 [] (oK 0 [] h8 (zQs h7) k),⟨tv,tv⟩,zA,tv,zA⟩
def zMz(qq:Nat)(p0:Int):Option Bool:=
 if decide (p0≥48)then
 some (decide (p0≤57))
 else
 some false
theorem zWi:Qf 151 f151:=⟨func151,rfl⟩
theorem zWh{qq p0 r}(h:zMz qq p0=some r):Ct 151 [] [ai p0] (ab r) [] 0:=⟨by
 unfold zMz at h
 obtain⟨h1,h⟩|⟨h1,h⟩:=zL h
 cases h
 exact tF zWi 1 [] (oB 0 h1 o0)
 cases h
 exact tF zWi 0 [] (oB 0 h1 o0),⟨tv,tv⟩,zA,tv,zA⟩
def zMy(qq:Nat)(p0:Int):Option Bool:=
 zJe qq p0>>=fun r1=>
 if r1 then
 some true
 else
 zMz qq p0>>=fun r4=>
 if r4 then
 some true
 else
 if p0==95 then
 some true
 else
 some (p0==39)
theorem zQn:Qf 126 f126:=⟨func126,rfl⟩
theorem zWg{qq p0 r}(h:zMy qq p0=some r):Ct 126 [] [ai p0] (ab r) [] 0:=⟨by
 unfold zMy at h
 obtain⟨r1,h2,h⟩:=zB h
 obtain⟨h3,h⟩|⟨h3,h⟩:=zL h
 cases h
 exact tF zQn 0 [] (oK 0 [] h3 (zQo h2) o0)
 obtain⟨r4,h5,h⟩:=zB h
 have k:=oK 0 [] h3 (zQo h2) o0
 obtain⟨h6,h⟩|⟨h6,h⟩:=zL h
 cases h
 exact tF zQn 0 [] (oK 0 [] h6 (zWh h5) k)
 have k:=oK 0 [] h6 (zWh h5) k
 obtain⟨h7,h⟩|⟨h7,h⟩:=zL h
 cases h
 exact tF zQn 0 [] (oB 0 h7 k)
 cases h
 exact tF zQn 1 [] (oB 0 h7 k),⟨tv,tv⟩,zA,tv,zA⟩
def bA:Nat->List ByteArray->Int->(List (ByteArray×Int))->Option Bool
 |0,_,_,_=>none
 |qq+1,p0,v9,yB=>
 if decide (v9<(p0.length:Int))then
 zR p0 v9>>=fun x2=>
 if decide ((zCf yB x2)>0)then
 some false
 else
 bA qq p0 (xL (v9+1)) (T4 yB x2 (xL ((zCf yB x2)+1)))
 else
 some true
def e67(qq:Nat)(p0:List ByteArray):Option Bool:=
 bA qq p0 0 ([]:List (ByteArray×Int))
theorem zTa:∀qq:Nat,(∀ {p0 v9 yB r},bA qq p0 v9 yB=some r->(∀j,dL 0 (pt 4021 f67) (sp j 22 0 [(3,.obj 0),(7,zO H5 p0 .no),(8,ai (p0.length:Int)),(9,ai v9)]) (⟨[(0,zAK yB)],1,[],0,[]⟩) (fQ 0 (nQ 0 f67 (ab r) [] 0) [.blk 0,.seq (pt 63 f67)]))):=by
 intro qq
 induction qq with
 |zero=>
  exact fun h=>nn h
 |succ qq ih=>
  intro p0 v9 yB r h
  rw[bA]at h
  obtain⟨h1,h⟩|⟨h1,h⟩:=zL h
  obtain⟨x2,h3,h⟩:=zB h
  have k:=oL 1 (zSz yB x2)<|oA 0 (zVX (o:=.no) h3)<|oB 0 h1 o0
  obtain⟨h4,h⟩|⟨h4,h⟩:=zL h
  cases h
  exact fun j=>lF 0 [] (oB 0 h4 k)
  exact fun j=>lH 1 [] [0] [] [3,7,8,9] (oD (dS p0)<|oU 1 (zVZ yB x2 (xL ((zCf yB x2)+1)))<|oL 0 (zSz yB x2)<|oB 0 h4 k) (ih h)
  cases h
  exact fun j=>lF 0 [] (oB 0 h1 o0)
theorem c67{qq p0 r}(h:e67 qq p0=some r):Ct 67 [] [zO H5 p0 .no] (ab r) [] 0:=⟨by
 unfold e67 at h
 exact tH ⟨func67,rfl⟩ 1 [] [0] [] [3,7,8,9] (oD (dS p0) o0) (zTa _ h),⟨⟨tv,dS _⟩,tv⟩,zA,tv,zA⟩
def bB:Nat->(yV×Int×Int)->Int->Option Bool
 |0,_,_=>none
 |qq+1,r1,v32=>
 if decide (v32<(r1.1.length:Int))then
 zR r1.1 v32>>=fun x10=>
 zMy qq x10>>=fun r12=>
 if r12 then
 bB qq r1 (xL (v32+1))
 else
 some false
 else
 zR r1.1 0>>=fun x15=>
 zJe qq x15>>=fun r17=>
 if r17 then
 some true
 else
 if x15==95 then
 some (decide ((r1.1.length:Int)>1))
 else
 some false
def e98(qq:Nat)(p0:ByteArray):Option Bool:=
 zLW qq p0>>=fun r1=>
 if r1.2.2 != 0 then
 some false
 else
 if (r1.1.length:Int)==0 then
 some false
 else
 if decide ((p0.size:Int)>40)then
 some false
 else
 zLX qq p0>>=fun r6=>
 if r6 then
 some false
 else
 bB qq r1 0
theorem q98:Qf 98 f98:=⟨func98,rfl⟩
theorem zTB:∀qq:Nat,(∀ {r1 v32 r},bB qq r1 v32=some r->(∀j,dL 0 (pt 16309 f98) (sp j 55 0 [(3,zO yH r1.1 .no),(30,zO yH r1.1 .no),(31,ai (r1.1.length:Int)),(32,ai v32)]) (⟨[],0,[],0,[]⟩) (fQ 0 (nQ 0 f98 (ab r) [] 0) [.blk 0,.seq (pt 255 f98)]))):=by
 intro qq
 induction qq with
 |zero=>
  exact fun h=>nn h
 |succ qq ih=>
  intro r1 v32 r h
  rw[bB]at h
  obtain⟨h9,h⟩|⟨h9,h⟩:=zL h
  obtain⟨x10,h11,h⟩:=zB h
  obtain⟨r12,h13,h⟩:=zB h
  have k:=oA 0 (I0 (o:=.no) h11)<|oB 0 h9 o0
  obtain⟨h14,h⟩|⟨h14,h⟩:=zL h
  exact fun j=>lH 2 [] [] [] [3,30,31,32] (oD (dI r1.1)<|oD (dI r1.1)<|oK 1 [] h14 (zWg h13) k) (ih h)
  cases h
  exact fun j=>lF 1 [] (oK 1 [] h14 (zWg h13) k)
  obtain⟨x15,h16,h⟩:=zB h
  obtain⟨r17,h18,h⟩:=zB h
  have k:=oA 0 (I0 (o:=.no) h16)<|oB 0 h9 o0
  obtain⟨h19,h⟩|⟨h19,h⟩:=zL h
  cases h
  exact fun j=>lF 0 [] (oK 1 [] h19 (zQo h18) k)
  have k:=oA 0 (I0 (o:=.no) h16)<|oK 1 [] h19 (zQo h18) k
  obtain⟨h20,h⟩|⟨h20,h⟩:=zL h
  cases h
  exact fun j=>lF 2 [] (oB 1 h20 k)
  cases h
  exact fun j=>lF 0 [] (oB 1 h20 k)
theorem c98{qq p0 r}(h:e98 qq p0=some r):Ct 98 [] [at' p0] (ab r) [] 0:=⟨by
 unfold e98 at h
 obtain⟨r1,h2,h⟩:=zB h
 have k:=oC 0 [] (zYC h2) o0
 obtain⟨h3,h⟩|⟨h3,h⟩:=zL h
 cases h
 exact tF q98 0 [] (oB 3 h3 k)
 have k:=oB 3 h3 k
 obtain⟨h4,h⟩|⟨h4,h⟩:=zL h
 cases h
 exact tF q98 0 [] (oB 1 h4 k)
 have k:=oB 1 h4 k
 obtain⟨h5,h⟩|⟨h5,h⟩:=zL h
 cases h
 exact tF q98 0 [] (oB 1 h5 k)
 obtain⟨r6,h7,h⟩:=zB h
 have k:=oB 1 h5 k
 obtain⟨h8,h⟩|⟨h8,h⟩:=zL h
 cases h
 exact tF q98 0 [] (oK 0 [] h8 (zWk h7) k)
 exact tH q98 1 [] [] [] [3,30,31,32] (oD (dI r1.1)<|oD (dI r1.1)<|oK 0 [] h8 (zWk h7) k) (zTB _ h),⟨tv,tv⟩,zA,tv,zA⟩
theorem zMx(c:Int):zM (fun q=>zLS q c) fun r=>0≤r.1∧r.1≤4:=by
 simp only[zLS]
 repeat' (first|exact zM.ret ⟨by simp,by simp⟩|refine zM.ite (fun _=>?_) (fun _=>?_))
theorem zJd(n:Int):zM (fun q=>zLT q n) fun _=>True:=by
 simp only[zLT]
 repeat' (first|exact zM.ret trivial|refine zM.ite (fun _=>?_) (fun _=>?_))
theorem U9(n:Int):zM (fun q=>zJf q n) fun _=>True:=by
 simp only[zJf]
 repeat' (first|exact zM.ret trivial|refine zM.ite (fun _=>?_) (fun _=>?_))
theorem zCY{s:ByteArray}{i:Int}(h0:0≤i)(h1:i<s.size):∃c,T5 s i=some c:=by
 unfold T5
 simp[h0,h1]
theorem zJc(s:ByteArray)(a:Int)(w:Int×Int)(ha:0≤a)(hs:s.size≤65535)(hw:a+w.1≤s.size)(hw1:1≤w.1):∀(m:Nat) (i n:Int),1≤i->i+m=w.1->zM (fun q=>jM q s a w n i) fun r=>r.2.2=0->r.2.1=w.1:=by
 intro m
 induction m with
 |zero=>
  intro i n hi hm
  refine zM.succ ?_
  simp only[jM]
  refine zM.ite (fun h=>absurd (of_decide_eq_true h) (by omega)) fun _=>(U9 n).bind fun b _=>?_
  refine zM.ite (fun _=>(zJd n).bind fun c _=>zM.ite (fun _=>zM.ret (by simp)) fun _=>zM.ret (by simp)) fun _=>zM.ret (by simp)
 |succ m ih=>
  intro i n hi hm
  refine zM.succ ?_
  simp only[jM]
  obtain⟨c,hc⟩:=zCY (s:=s) (i:=a+i) (by omega) (by omega)
  refine zM.ite (fun _=>zM.pure (a:=c) (by rw[yM (by omega) (by omega)];exact hc) (zM.ite (fun _=>zM.ret (by simp)) fun _=>?_)) fun h=>absurd (of_decide_eq_false h) (by omega)
  rw[yM (x:=i+1) (by omega) (by omega)]
  exact ih (i+1) _ (by omega) (by omega)
theorem zMw(s:ByteArray)(a:Int)(ha:0≤a)(hs:s.size≤65535):zM (fun q=>zLU q s a) fun r=>r.2.2=0->1≤r.2.1∧a+r.2.1≤s.size:=by
 simp only[zLU]
 refine zM.ite (fun _=>zM.ret (by simp)) fun _=>zM.ite (fun _=>zM.ret (by simp)) fun h=>?_
 have h1:=of_decide_eq_false h
 obtain⟨c,hc⟩:=zCY (s:=s) (i:=a) ha (by omega)
 refine zM.pure hc ((zMx c).bind fun w hw=>zM.ite (fun _=>zM.ret (by simp)) fun h2=>zM.ite (fun _=>zM.ret (by simp)) fun h3=>?_)
 have h4:=of_decide_eq_false h3
 rw[yM (by omega) (by omega)]at h4
 have h5:w.1≠0:=by simpa using h2
 refine(zJc s a w ha hs (by omega) (by omega) (w.1-1).toNat 1 w.2 (by omega) (by omega)).mono fun r hr h6=>?_
 have:=hr h6
 omega
theorem zMv(s:ByteArray)(hs:s.size≤65535):∀(m:Nat) (a:Int) (acc:List Int),0≤a->a≤s.size->(s.size:Int)-a≤m->(acc.length:Int)≤a->zM (fun q=>jN q s acc a) fun r=>r.1.length≤65535:=by
 intro m
 induction m with
 |zero=>
  intro a acc h0 h1 hm hl
  refine zM.succ ?_
  simp only[jN]
  refine zM.ite (fun h=>absurd (of_decide_eq_true h) (by omega)) fun _=>zM.ret (by show acc.length≤65535;omega)
 |succ m ih=>
  intro a acc h0 h1 hm hl
  refine zM.succ ?_
  simp only[jN]
  refine zM.ite (fun _=>(zMw s a h0 hs).bind fun r hr=>zM.ite (fun _=>zM.ret (by simp)) fun h=>zM.pure (xB (by simp<;>omega)) ?_) fun _=>zM.ret (by show acc.length≤65535;omega)
  have:=hr (by simpa using h)
  rw[yM (by omega) (by omega)]
  exact ih (a+r.2.1) _ (by omega) (by omega) (by omega) (by simp;omega)
theorem zQm(s:ByteArray):zM (fun q=>zLW q s) fun r=>r.1.length≤65535:=by
 simp only[zLW]
 refine zM.ite (fun _=>zM.ret (by simp)) fun h=>?_
 have:=of_decide_eq_false h
 exact zMv s (by omega) s.size 0 [] (by omega) (by omega) (by omega) (by simp)
theorem zMu(n:Int):zM (fun q=>zLZ q n) fun _=>True:=by
 simp only[zLZ]
 repeat' (first|exact zM.ret trivial|refine zM.ite (fun _=>?_) (fun _=>?_))
theorem V0(n:Int):zM (fun q=>zJe q n) fun _=>True:=by
 simp only[zJe]
 repeat' (first|exact zM.ret trivial|refine zM.ite (fun _=>?_) (fun _=>?_)|refine zM.bind (U9 n) (fun _ _=>?_)|refine zM.bind (zMu n) (fun _ _=>?_))
theorem zJb(n:Int):zM (fun q=>zMz q n) fun _=>True:=by
 simp only[zMz]
 repeat' (first|exact zM.ret trivial|refine zM.ite (fun _=>?_) (fun _=>?_))
theorem zJa(n:Int):zM (fun q=>zMy q n) fun _=>True:=by
 simp only[zMy]
 repeat' (first|exact zM.ret trivial|refine zM.ite (fun _=>?_) (fun _=>?_)|refine zM.bind (V0 n) (fun _ _=>?_)|refine zM.bind (zJb n) (fun _ _=>?_))
theorem zCZ(s:ByteArray):zM (fun q=>zLX q s) fun _=>True:=by
 simp only[zLX]
 repeat' (first|exact zM.ret trivial|refine zM.ite (fun _=>?_) (fun _=>?_))
theorem M0(r1:List Int×Int×Int)(h0:0<r1.1.length)(h1:r1.1.length≤65535):∀(l:List Int) (v:Nat),r1.1.drop v=l->zM (fun q=>bB q r1 (v:Int)) fun _=>True
 | [],v,hd=>by
  refine zM.succ ?_
  simp only[bB]
  obtain⟨y,hy⟩:∃y,zR r1.1 0=some y:=⟨_,by unfold zR;rw[if_pos (by omega)];exact List.getElem?_eq_getElem h0⟩
  refine zM.ite (fun h=>?_) fun _=>zM.pure hy ?_
  ·rw[drop_nil hd]at h;cases h
  ·repeat' (first|exact zM.ret trivial|refine zM.ite (fun _=>?_) (fun _=>?_)|refine zM.bind (V0 y) (fun _ _=>?_))
 |x::l,v,hd=>by
  have hlt:=yY hd
  refine zM.succ ?_
  simp only[bB]
  refine zM.ite (fun _=>zM.pure (yD hd) ((zJa x).bind fun b _=>zM.ite (fun _=>?_) fun _=>zM.ret trivial)) fun h=>?_
  ·rw[yE v (by omega)]
   exact M0 r1 h0 h1 l (v+1) (zZ hd)
  ·rw[yK hd]at h;cases h
theorem zFx(s:ByteArray):zM (fun q=>e98 q s) fun _=>True:=by
 simp only[e98]
 refine(zQm s).bind fun r hr=>zM.ite (fun _=>zM.ret trivial) fun _=>zM.ite (fun _=>zM.ret trivial) fun h=>zM.ite (fun _=>zM.ret trivial) fun _=>(zCZ s).bind fun _ _=>zM.ite (fun _=>zM.ret trivial) fun _=>?_
 exact M0 r (by simp at h;exact List.length_pos_iff.2 h) hr r.1 0 rfl
theorem dU:∀(r l:List ByteArray) (v:Nat) (m:List (ByteArray×Int)),l.drop v=r->l.length≤65535->zM (fun q=>bA q l (v:Int) m) fun _=>True
 | [],l,v,m,hd,hl=>by
  refine zM.succ ?_
  simp only[bA]
  refine zM.ite (fun h=>?_) fun _=>zM.ret trivial
  rw[drop_nil hd]at h;cases h
 |x::r,l,v,m,hd,hl=>by
  have hlt:=yY hd
  refine zM.succ ?_
  simp only[bA]
  refine zM.ite (fun _=>zM.pure (yD hd) (zM.ite (fun _=>zM.ret trivial) fun _=>?_)) fun h=>?_
  ·rw[yE v (by omega)]
   exact dU r l (v+1) _ (zZ hd) hl
  ·rw[yK hd]at h;cases h
theorem zAV(l:List ByteArray)(hl:l.length≤65535):zM (fun q=>e67 q l) fun _=>True:=by
 simp only[e67]
 exact dU l l 0 _ rfl hl
def zJA(qq:Nat)(p0:Tm):Option Bool:=
 if p0.k==0 then
 if p0.n==0 then
 some ((p0.sub.length:Int)==0)
 else
 some false
 else
 some false
theorem zTC:Qf 128 f128:=⟨func128,rfl⟩
theorem zQl{qq p0 r}(h:zJA qq p0=some r):Ct 128 [] [xF p0] (ab r) [] 0:=⟨by
 unfold zJA at h
 obtain⟨h1,h⟩|⟨h1,h⟩:=zL h
 have k:=oB 1 h1 o0
 obtain⟨h2,h⟩|⟨h2,h⟩:=zL h
 cases h
 exact tF zTC 3 [] (oB 1 h2 k)
 cases h
 exact tF zTC 0 [] (oB 1 h2 k)
 cases h
 exact tF zTC 0 [] (oB 1 h1 o0),⟨⟨tv,tv,⟨tv,dT _⟩,tv⟩,tv⟩,zA,tv,zA⟩
def jO:Nat->yV->Int->Int->Option Bool
 |0,_,_,_=>none
 |qq+1,p0,p1,v9=>
 if decide (v9<(p0.length:Int))then
 zR p0 v9>>=fun x2=>
 if x2 != (xL (p1+v9))then
 some false
 else
 jO qq p0 p1 (xL (v9+1))
 else
 some true
def zJB(qq:Nat)(p0:yV)(p1:Int):Option Bool:=
 jO qq p0 p1 0
theorem zQk:∀qq:Nat,(∀ {p0 p1 v9 r},jO qq p0 p1 v9=some r->(∀j,dL 0 (pt 949 f130) (sp j 20 0 [(1,ai p1),(7,zO yH p0 .no),(8,ai (p0.length:Int)),(9,ai v9)]) (⟨[],0,[],0,[]⟩) (fQ 0 (nQ 0 f130 (ab r) [] 0) [.blk 0,.seq (pt 15 f130)]))):=by
 intro qq
 induction qq with
 |zero=>
  exact fun h=>nn h
 |succ qq ih=>
  intro p0 p1 v9 r h
  rw[jO]at h
  obtain⟨h1,h⟩|⟨h1,h⟩:=zL h
  obtain⟨x2,h3,h⟩:=zB h
  have k:=oA 0 (I0 (o:=.no) h3)<|oB 0 h1 o0
  obtain⟨h4,h⟩|⟨h4,h⟩:=zL h
  cases h
  exact fun j=>lF 0 [] (oB 2 h4 k)
  exact fun j=>lH 1 [] [] [] [1,7,8,9] (oD (dI p0)<|oB 2 h4 k) (ih h)
  cases h
  exact fun j=>lF 0 [] (oB 0 h1 o0)
theorem zQj{qq p0 p1 r}(h:zJB qq p0 p1=some r):Ct 130 [] [zO yH p0 .no,ai p1] (ab r) [] 0:=⟨by
 unfold zJB at h
 exact tH ⟨func130,rfl⟩ 1 [] [] [] [1,7,8,9] (oD (dI p0) o0) (zQk _ h),⟨⟨tv,dI _⟩,tv,tv⟩,zA,tv,zA⟩
def zJC(qq:Nat)(p0:yU)(p1 p2:Int):Option Bool:=
 if decide (p1≥0)then
 if decide (p1<(p0.length:Int))then
 zR p0 p1>>=fun x3=>
 some (x3.kind==p2)
 else
 some false
 else
 some false
theorem zTD:Qf 154 f154:=⟨func154,rfl⟩
theorem zQi{qq p0 p1 p2 r}(h:zJC qq p0 p1 p2=some r):Ct 154 [] [zO yZ p0 .no,ai p1,ai p2] (ab r) [] 0:=⟨by
 unfold zJC at h
 obtain⟨h1,h⟩|⟨h1,h⟩:=zL h
 have k:=oB 0 h1 o0
 obtain⟨h2,h⟩|⟨h2,h⟩:=zL h
 obtain⟨x3,h4,h⟩:=zB h
 cases h
 exact tF zTD 2 [] (oA 0 (wM (o:=.no) h4)<|oB 1 h2 k)
 cases h
 exact tF zTD 0 [] (oB 1 h2 k)
 cases h
 exact tF zTD 0 [] (oB 0 h1 o0),⟨⟨tv,dE _⟩,tv,tv,tv⟩,zA,tv,zA⟩
def jP:Nat->yU->Int->yV->Int->Int->Option Bool
 |0,_,_,_,_,_=>none
 |qq+1,p0,p1,p2,p3,v13=>
 if decide (v13<(p2.length:Int))then
 zR p2 v13>>=fun x2=>
 zJC qq p0 x2 p3>>=fun r4=>
 if r4 then
 zR p0 x2>>=fun x7=>
 if x7.fam != p1 then
 some false
 else
 if x7.place != v13 then
 some false
 else
 jP qq p0 p1 p2 p3 (xL (v13+1))
 else
 some false
 else
 some true
def zJD(qq:Nat)(p0:yU)(p1:Int)(p2:yV)(p3:Int):Option Bool:=
 jP qq p0 p1 p2 p3 0
theorem zQh:∀qq:Nat,(∀ {p0 p1 p2 p3 v13 r},jP qq p0 p1 p2 p3 v13=some r->(∀j,dL 0 (pt 949 f131) (sp j 42 0 [(0,zO yZ p0 .no),(1,ai p1),(3,ai p3),(11,zO yH p2 .no),(12,ai (p2.length:Int)),(13,ai v13)]) (⟨[],0,[],0,[]⟩) (fQ 0 (nQ 0 f131 (ab r) [] 0) [.blk 0,.seq (pt 15 f131)]))):=by
 intro qq
 induction qq with
 |zero=>
  exact fun h=>nn h
 |succ qq ih=>
  intro p0 p1 p2 p3 v13 r h
  rw[jP]at h
  obtain⟨h1,h⟩|⟨h1,h⟩:=zL h
  obtain⟨x2,h3,h⟩:=zB h
  obtain⟨r4,h5,h⟩:=zB h
  have k:=oA 0 (I0 (o:=.no) h3)<|oB 0 h1 o0
  obtain⟨h6,h⟩|⟨h6,h⟩:=zL h
  obtain⟨x7,h8,h⟩:=zB h
  have k:=oA 1 (wM (o:=.no) h8)<|oK 1 [] h6 (zQi h5) k
  obtain⟨h9,h⟩|⟨h9,h⟩:=zL h
  cases h
  exact fun j=>lF 0 [] (oB 1 h9 k)
  have k:=oA 0 (wM (o:=.no) h8)<|oB 1 h9 k
  obtain⟨h10,h⟩|⟨h10,h⟩:=zL h
  cases h
  exact fun j=>lF 0 [] (oB 1 h10 k)
  exact fun j=>lH 1 [] [] [] [0,1,3,11,12,13] (oD (dI p2)<|oD (dE p0)<|oB 1 h10 k) (ih h)
  cases h
  exact fun j=>lF 1 [] (oK 1 [] h6 (zQi h5) k)
  cases h
  exact fun j=>lF 0 [] (oB 0 h1 o0)
theorem zQg{qq p0 p1 p2 p3 r}(h:zJD qq p0 p1 p2 p3=some r):Ct 131 [] [zO yZ p0 .no,ai p1,zO yH p2 .no,ai p3] (ab r) [] 0:=⟨by
 unfold zJD at h
 exact tH ⟨func131,rfl⟩ 1 [] [] [] [0,1,3,11,12,13] (oD (dI p2)<|oD (dE p0) o0) (zQh _ h),⟨⟨tv,dE _⟩,tv,⟨tv,dI _⟩,tv,tv⟩,zA,tv,zA⟩
def zMt(qq:Nat)(p0:yU)(p1:Int):Option Bool:=
 zR p0 p1>>=fun x1=>
 if decide (x1.pars<0)then
 some false
 else
 if decide (x1.inds<0)then
 some false
 else
 if decide (x1.pars>24)then
 some false
 else
 if decide (x1.inds>(xL (24-x1.pars)))then
 some false
 else
 if x1.fam != 0 then
 some false
 else
 if x1.place != 0 then
 some false
 else
 zJA qq x1.body>>=fun r9=>
 if r9 then
 U7 qq x1.type (xL (x1.pars+x1.inds))>>=fun r12=>
 if r12.2.2 != 0 then
 some false
 else
 if r12.2.1.k != 2 then
 some false
 else
 if r12.2.1.n != x1.level then
 some false
 else
 if decide ((x1.cons.length:Int)>16)then
 some false
 else
 zJB qq x1.cons (xL (p1+1))>>=fun r18=>
 if r18 then
 zJD qq p0 p1 x1.cons 2>>=fun r21=>
 if r21 then
 if (x1.fields.length:Int)==0 then
 some true
 else
 if x1.inds != 0 then
 some false
 else
 if (x1.cons.length:Int) != 1 then
 some false
 else
 zJB qq x1.fields (xL (p1+2))>>=fun r27=>
 if r27 then
 zJD qq p0 p1 x1.fields 4>>=fun r30=>
 if r30 then
 zR p0 (xL (p1+1))>>=fun x33=>
 zCV qq x33.type>>=fun r35=>
 if r35.2.2==0 then
 some ((r35.1.length:Int)==(xL (x1.pars+(x1.fields.length:Int))))
 else
 some false
 else
 some false
 else
 some false
 else
 some false
 else
 some false
 else
 some false
theorem kG:Qf 100 f100:=⟨func100,rfl⟩
theorem zYD{qq p0 p1 r}(h:zMt qq p0 p1=some r):Ct 100 [] [zO yZ p0 .no,ai p1] (ab r) [] 0:=⟨by
 unfold zMt at h
 obtain⟨x1,h2,h⟩:=zB h
 have k:=oA 0 (wM (o:=.no) h2) o0
 obtain⟨h3,h⟩|⟨h3,h⟩:=zL h
 cases h
 exact tF kG 0 [] (oB 3 h3 k)
 have k:=oB 3 h3 k
 obtain⟨h4,h⟩|⟨h4,h⟩:=zL h
 cases h
 exact tF kG 0 [] (oB 1 h4 k)
 have k:=oB 1 h4 k
 obtain⟨h5,h⟩|⟨h5,h⟩:=zL h
 cases h
 exact tF kG 0 [] (oB 1 h5 k)
 have k:=oB 1 h5 k
 obtain⟨h6,h⟩|⟨h6,h⟩:=zL h
 cases h
 exact tF kG 0 [] (oB 3 h6 k)
 have k:=oB 3 h6 k
 obtain⟨h7,h⟩|⟨h7,h⟩:=zL h
 cases h
 exact tF kG 0 [] (oB 1 h7 k)
 have k:=oB 1 h7 k
 obtain⟨h8,h⟩|⟨h8,h⟩:=zL h
 cases h
 exact tF kG 0 [] (oB 1 h8 k)
 obtain⟨r9,h10,h⟩:=zB h
 have k:=oB 1 h8 k
 obtain⟨h11,h⟩|⟨h11,h⟩:=zL h
 obtain⟨r12,h13,h⟩:=zB h
 have k:=oC 5 [] (zLQ h13)<|oK 1 [] h11 (zQl h10) k
 obtain⟨h14,h⟩|⟨h14,h⟩:=zL h
 cases h
 exact tF kG 0 [] (oB 4 h14 k)
 have k:=oB 4 h14 k
 obtain⟨h15,h⟩|⟨h15,h⟩:=zL h
 cases h
 exact tF kG 0 [] (oB 1 h15 k)
 have k:=oB 1 h15 k
 obtain⟨h16,h⟩|⟨h16,h⟩:=zL h
 cases h
 exact tF kG 0 [] (oB 2 h16 k)
 have k:=oB 2 h16 k
 obtain⟨h17,h⟩|⟨h17,h⟩:=zL h
 cases h
 exact tF kG 0 [] (oB 2 h17 k)
 obtain⟨r18,h19,h⟩:=zB h
 have k:=oB 2 h17 k
 obtain⟨h20,h⟩|⟨h20,h⟩:=zL h
 obtain⟨r21,h22,h⟩:=zB h
 have k:=oK 2 [] h20 (zQj h19) k
 obtain⟨h23,h⟩|⟨h23,h⟩:=zL h
 have k:=oK 2 [] h23 (zQg h22) k
 obtain⟨h24,h⟩|⟨h24,h⟩:=zL h
 cases h
 exact tF kG 0 [] (oB 3 h24 k)
 have k:=oB 3 h24 k
 obtain⟨h25,h⟩|⟨h25,h⟩:=zL h
 cases h
 exact tF kG 0 [] (oB 1 h25 k)
 have k:=oB 1 h25 k
 obtain⟨h26,h⟩|⟨h26,h⟩:=zL h
 cases h
 exact tF kG 0 [] (oB 2 h26 k)
 obtain⟨r27,h28,h⟩:=zB h
 have k:=oB 2 h26 k
 obtain⟨h29,h⟩|⟨h29,h⟩:=zL h
 obtain⟨r30,h31,h⟩:=zB h
 have k:=oK 2 [] h29 (zQj h28) k
 obtain⟨h32,h⟩|⟨h32,h⟩:=zL h
 obtain⟨x33,h34,h⟩:=zB h
 obtain⟨r35,h36,h⟩:=zB h
 have k:=oC 1 [] (zQx h36)<|oA 2 (wM (o:=.no) h34)<|oK 2 [] h32 (zQg h31) k
 obtain⟨h37,h⟩|⟨h37,h⟩:=zL h
 cases h
 exact tF kG 6 [] (oB 4 h37 k)
 cases h
 exact tF kG 0 [] (oB 4 h37 k)
 cases h
 exact tF kG 1 [] (oK 2 [] h32 (zQg h31) k)
 cases h
 exact tF kG 1 [] (oK 2 [] h29 (zQj h28) k)
 cases h
 exact tF kG 1 [] (oK 2 [] h23 (zQg h22) k)
 cases h
 exact tF kG 1 [] (oK 2 [] h20 (zQj h19) k)
 cases h
 exact tF kG 1 [] (oK 1 [] h11 (zQl h10) k),⟨⟨tv,dE _⟩,tv,tv⟩,zA,tv,zA⟩
def e99(qq:Nat)(p0:Tm)(p1:Int):Option Bool:=
 e48 qq p0 0 p1>>=fun r1=>
 if r1 then
 e49 qq p0>>=fun r4=>
 some ((r4.length:Int)==0)
 else
 some false
theorem q99:Qf 99 f99:=⟨func99,rfl⟩
theorem c99{qq p0 p1 r}(h:e99 qq p0 p1=some r):Ct 99 [] [xF p0,ai p1] (ab r) [] 0:=⟨by
 unfold e99 at h
 obtain⟨r1,h2,h⟩:=zB h
 obtain⟨h3,h⟩|⟨h3,h⟩:=zL h
 obtain⟨r4,h5,h⟩:=zB h
 cases h
 exact tF q99 2 [] (oC 1 [] (c49 h5)<|oK 1 [] h3 (c48 h2) o0)
 cases h
 exact tF q99 0 [] (oK 1 [] h3 (c48 h2) o0),⟨⟨tv,tv,⟨tv,dT _⟩,tv⟩,tv,tv⟩,zA,tv,zA⟩
end Go.Proofs.YtbpkpdnneffccaaGreat
