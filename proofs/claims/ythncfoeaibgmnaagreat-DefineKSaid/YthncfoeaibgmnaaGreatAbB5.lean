/- Parts of the proof that the law returns true: walks of the functions, plain laws. -/
import Derived.BigFrameIn
import Derived.Laws.MakeOwn
import Derived.RangeFuncRecord
import Derived.TacticsIn
import Derived.WalkKit
import Derived.Test.YthncfoeaibgmnaaGreatAbB4
set_option linter.unusedVariables false
set_option linter.unusedSimpArgs false
set_option linter.unusedSectionVars false
namespace Go.Proofs.YthncfoeaibgmnaaGreat
open Go Go.Ab Go.Proofs.Tryz
def zQP(qq:Nat)(p0:List zK):Option Bool:=
 (zGu qq p0)>>=fun l=>
 if decide (List.length l<4611686018427387904)=true then(zIw qq (wA l))>>=fun m=>some ((List.length (vN m):Int)==(List.length (wA l):Int))else none
theorem zVz{qq:Nat}{p0:zU}{r:zU}(h:zIw qq p0=some r):CT prog 127 [] [.sl (zF zS p0) p0.length .no] (.sl (zF zS r) r.length (.st 0 1)) [] 1:=by
 have hr:r=p0:=by have:=(uB h).2;simpa using this
 subst hr
 by_cases h1:List.length r=0
 ·have hp:r=[]:=List.length_eq_zero_iff.1 h1
  subst hp
  exact CT.stampNil (zIv (qq:=qq) (p0:=[]) (r:=.inl ()) rfl)
 ·exact CT.freezeS (zIv (qq:=qq) (p0:=r) (r:=.inr r) (by unfold zCY;rw[if_neg (by simpa using h1),show yV 8 ([]:zU) r=some r from h];rfl)) (dI _) (wQ yL.len _)
section
open Go.RowKit Go.Sort Go.Proofs
theorem V.blind{G G':Gh}{w w':World}{es:List AV}{n:Nat}{o:uI}{u:Value}(h:V G w (.sl es n o) u):V G' w' (.sl [] n .no) u:=by
 simp only[V]at h ⊢
 obtain⟨cap,h1,⟨h2,h3,h4,h5,_⟩|⟨b,off,h2,_,_⟩⟩:=h
 ·exact⟨cap,h1,.inl ⟨trivial,h3,h4,h5,trivial⟩⟩
 ·exact⟨cap,h1,.inr ⟨b,off,h2,by simp only[VC],trivial⟩⟩
theorem zEd{G:Gh}{w:World}{s:xK}{k:Nat}{l:zU}{u:Value}(hR:yS G (xB (wU 0) s) w)(ho:s.own.any (Nat.beq k)=true)(hu:V G w (.sl (zF zS l) l.length (.st k 1)) u) :
  (l=[]∧∃p cap,u = .slice p 0 cap)∨∃b off cap,u = .slice (some ⟨b,off,none⟩) l.length cap∧l.length≤cap∧Holds (Value.int .i64) w b off l.toArray∧b<w.heap.size∧¬G.F b∧(∀i,G.ρ i≠some b)∧∀u',V G w (.sl (zF zS l) l.length (.st k 1)) u'->u' = .slice (some ⟨b,off,none⟩) l.length cap:=by
 have hu0:=hu
 simp only[V]at hu
 obtain⟨cap,hcap,⟨he,hn,hc0,hu',_⟩|⟨b,off,rfl,hC,hq,hO⟩⟩:=hu
 ·exact .inl ⟨List.length_eq_zero_iff.1 hn,_,_,hu'⟩
 ·rcases hO with⟨hn,hc⟩|⟨hm,hF,hτ⟩
  ·exact .inl ⟨List.length_eq_zero_iff.1 hn,_,_,by rw[hn]⟩
  ·by_cases hl:l=[]
   ·exact .inl ⟨hl,_,cap,by rw[hl];rfl⟩
   right
   obtain⟨b',f,t,q1,q2⟩:=hR.own k (by rw[vL];exact ho)
   rw[hτ]at q1
   cases q1
   have hpos:0<l.length:=List.length_pos_iff.2 hl
   rcases q2 with q2|⟨_,q3,_,vs,T,q5,q6⟩
   ·omega
   obtain⟨us,h1,h2⟩:=VC.cells _ _ _ hC
   have hus:=VL.ints_eq l us h1
   subst hus
   have hH:Holds (Value.int .i64) w b off l.toArray:=by
    intro j hj
    have hj':j<l.length:=by simpa using hj
    refine⟨?_,by simp[World.frozen?,q5]⟩
    rw[h2 j (by simpa using hj')]
    simp[hj']
   refine⟨b,off,cap,rfl,hcap,hH,(Array.getElem?_eq_some_iff.1 q5).1,hF,q3,fun u' hu'=>?_⟩
   simp only[V]at hu'
   obtain⟨cap',_,⟨_,hn,_⟩|⟨b2,off2,rfl,_,_,hO2⟩⟩:=hu'
   ·omega
   ·rcases hO2 with⟨hn,_⟩|⟨hm2,_,hτ2⟩
    ·omega
    ·rw[hτ,hm]at hτ2
     simp only[Option.some.injEq,Prod.mk.injEq]at hτ2
     obtain⟨rfl,h5,h6⟩:=hτ2
     obtain rfl:off2=off:=by omega
     obtain rfl:cap'=cap:=by omega
     rfl
theorem V1(l:zU):(wA l).length=l.length:=(nJ l).length_eq
theorem zGt{G:Gh}{w:World}{s:xK}{k:Nat}{l:zU}{u:Value}(hR:yS G (xB (wU 0) s) w)(ho:s.own.any (Nat.beq k)=true)(hsz:l.length<4611686018427387904)(hu:V G w (.sl (zF zS l) l.length (.st k 1)) u) :
  Calls prog 192 #[u] w fun e w'=>∃(v:Value) (b:Nat) (S:Nat->Nat->Prop),e = .returned v∧¬G.F b∧(∀i,G.ρ i≠some b)∧wP (fun c=>c<w.heap.size∧c≠b) w w' ∧
   (∀c o,S c o->c=b∧∃x,w'.cell? ⟨c,o,none⟩=some x)∧∀G',(∀c o,S c o->G'.L c o)->V G' w' (.val (.tuple #[])) v∧∀u',V G w (.sl (zF zS l) l.length (.st k 1)) u'->V G' w' (.sl (zF zS (wA l)) (wA l).length .no) u':=by
 rcases zEd hR ho hu with⟨rfl,p,cap,rfl⟩|⟨b,off,cap,rfl,hcap,hH,hb,hF,hρ,huniq⟩
 ·refine Calls.mono (AnyM.slices_Sort_int_none Tryz.sortI p cap w) ?_
  rintro e w' ⟨rfl,rfl⟩
  exact⟨_,w'.heap.size,fun _ _=>False,rfl,fun h=>Nat.lt_irrefl _ (hR.base _ h),fun i hi=>Nat.lt_irrefl _ (hR.ρ_lt hi),wP.refl _ _,fun _ _ h=>h.elim,fun G' _=>⟨by simp only[V],fun u' h=>V.blind h⟩⟩
 ·refine Calls.mono (T7 (cap:=cap) hH hb hsz) ?_
  rintro e w' ⟨rfl,n,os,rfl⟩
  have hl:(l.mergeSort fun x y=>decide (x≤y)).length=l.length:=List.length_mergeSort _
  have hH1:Holds (Value.int .i64) (Sort.grow (putRow (Value.int .i64) (Sort.ahead w n) b off (l.mergeSort fun x y=>decide (x≤y)).toArray) os) b off (l.mergeSort fun x y=>decide (x≤y)).toArray:=
   holds_grow _ _ _ _ _ _ (by simpa using hb) (holds_putRow _ _ _ _ l.toArray _ hH (by simp[hl]))
  rw[mO]at hH1 ⊢
  have hil:=V1 l
  have hcell:∀i (h:i<(wA l).length),(Sort.grow (putRow (Value.int .i64) (Sort.ahead w n) b off (wA l).toArray) os).cell? ⟨b,off+i,none⟩=some (.int .i64 (wA l)[i]):=fun i h=>by
   have:=(hH1 i (by simpa using h)).1
   rw[this];simp[h]
  refine⟨_,b,fun c o=>c=b∧off≤o∧o<off+(wA l).length,rfl,hF,hρ,wP.trans (wP.putRow _ w n b off _) ((wP.grow _ os b).mono fun k hk=>⟨by simpa using hk.1,hk.2⟩),?_,fun G' hS=>⟨by simp only[V],fun u' h=>?_⟩⟩
  ·rintro c o ⟨rfl,h1,h2⟩
   exact⟨rfl,.int .i64 ((wA l)[o-off]'(by omega)),by have:=hcell (o-off) (by omega);rwa[show off+(o-off)=o by omega]at this⟩
  ·rw[huniq u' h]
   simp only[V]
   refine⟨cap,by omega,.inr ⟨b,off,by rw[hil],VC.of_cells _ _ b off (VL.ints (wA l)) (fun i hi=>hS _ _ ⟨rfl,by omega,?_⟩) (fun i hi=>?_),trivial⟩⟩
   ·have:i<(wA l).length:=by simpa using hi
    omega
   ·rw[hcell i (by simpa using hi)];simp
theorem t7{w:World}{p:Option Addr}{cap:Nat}{G:Gh}(hV:V G w (.sl [] 0 .no) (.slice p 0 cap)) :
  Calls prog 193 #[.slice p 0 cap] w fun e w'=>∃v,e = .returned v∧(wP (fun c=>c<w.heap.size) w w'∧∀G',V G' w' (.sl [] 0 .no) v):=by
 refine(zNI (atW w) w #[.slice p 0 cap] (zAz w) (zDV w) ?_).mono ?_
 ·simp only[VL];exact⟨V.none hV,trivial⟩
 ·rintro e w2 ⟨v,G',s',rfl,hE,hR,hv,_⟩
  refine⟨v,rfl,?_,fun G'=>V.none hv⟩
  have:=hR.below
  rw[hE.F,hE.w0]at this
  exact this
theorem t8{G:Gh}{w:World}{s:xK}{k:Nat}{l:zU}{u:Value}(hR:yS G (xB (wU 0) s) w)(ho:s.own.any (Nat.beq k)=true)(hsz:l.length<4611686018427387904)(hu:V G w (.sl (zF zS l) l.length (.st k 1)) u) :
  Calls prog 193 #[u] w fun e w'=>∃(v:Value) (b:Nat) (S:Nat->Nat->Prop),e = .returned v∧¬G.F b∧(∀i,G.ρ i≠some b)∧wP (fun c=>c<w.heap.size∧c≠b) w w' ∧
   (∀c o,S c o->c=b∧∃x,w'.cell? ⟨c,o,none⟩=some x)∧∀G',(∀c o,S c o->G'.L c o)->V G' w' (.sl (zF zS (vN l)) (vN l).length .no) v:=by
 rcases zEd hR ho hu with⟨rfl,p,cap,rfl⟩|⟨b,off,cap,rfl,hcap,hH,hb,hF,hρ,huniq⟩
 ·refine(t7 (G:=G) (V.blind hu)).mono ?_
  rintro e w' ⟨v,rfl,hK,hv⟩
  exact⟨v,w.heap.size,fun _ _=>False,rfl,fun h=>Nat.lt_irrefl _ (hR.base _ h),fun i hi=>Nat.lt_irrefl _ (hR.ρ_lt hi),hK.mono fun k hk=>hk.1,fun _ _ h=>h.elim,fun G' _=>hv G'⟩
 ·have hc:=gS (cap:=cap) hH hsz hcap
  have e1:Go.Lib.compactUpTo l.toArray l.toArray.size=vN l:=by have:=nL l l.length (Nat.le_refl _);rw[List.take_length]at this;simpa using this
  rw[e1]at hc
  have hcl:=C9 l
  refine hc.mono ?_
  rintro e w' ⟨rfl,q,rfl⟩
  have hcell:∀i (h:i<(vN l).length),(putRow (Value.int .i64) (Sort.ahead w q) b off (vN l++List.replicate (l.toArray.size-(vN l).length) 0).toArray).cell? ⟨b,off+i,none⟩=some (.int .i64 (vN l)[i]):=fun i h=>by
   rw[cell?_putRow (Value.int .i64) _ b off l.toArray _ (holds_ahead _ _ _ _ _ _ hH) (by simp;omega) i (by simp;omega)]
   simp[List.getElem?_append_left h,h]
  refine⟨_,b,fun c o=>c=b∧off≤o∧o<off+(vN l).length,rfl,hF,hρ,(wP.putRow _ w q b off _),?_,fun G' hS=>?_⟩
  ·rintro c o ⟨rfl,h1,h2⟩
   exact⟨rfl,.int .i64 ((vN l)[o-off]'(by omega)),by have:=hcell (o-off) (by omega);rwa[show off+(o-off)=o by omega]at this⟩
  ·simp only[V]
   refine⟨cap,Nat.le_trans hcl hcap,.inr ⟨b,off,rfl,VC.of_cells _ _ b off (VL.ints (vN l)) (fun i hi=>hS _ _ ⟨rfl,by omega,?_⟩) (fun i hi=>?_),trivial⟩⟩
   ·have:i<(vN l).length:=by simpa using hi
    omega
   ·rw[hcell i (by simpa using hi)];simp
end
theorem zXY{qq:Nat}{p0:List zK}{r:Bool}(h:zQP qq p0=some r):CT prog 154 [] [zH zI p0 .no] (ab r) [] 0:=by
 unfold zQP at h
 obtain⟨l,h2,h⟩:=zD h
 rcases eR (decide (List.length l<4611686018427387904))with h6|h6
 ·replace h:=ifT h6 h
  obtain⟨m,h5,h⟩:=zD h
  replace h:=Option.some.inj h
  subst h
  have hsz:List.length l<4611686018427387904:=by simpa using h6
  have hm:m=wA l:=by have:=(uB h5).2;simpa using this
  have hsm:List.length m<4611686018427387904:=by rw[hm,V1];exact hsz
  refine⟨?_,⟨⟨tv,zX _⟩,tv⟩,zB,tv,zB⟩
  have k0:g4 (wO f154)=1:=by kernel_rfl
  have k1:g4 (xH (wO f154))=1:=by kernel_rfl
  have k2:g4 (xH (xH (wO f154)))=1:=by kernel_rfl
  have k3:lP (uK (xH (xH (wO f154))))=true:=by kernel_rfl
  have k4:C6 (xX (uK (xH (xH (wO f154)))))[1]? = some (some 7,192,#[.tmp 6]):=by kernel_rfl
  have k5:(f192.name == "runtime.NumGoroutine")=false:=by kernel_rfl
  have k6:f192.body.isNone=false:=by kernel_rfl
  have k7:g4 (xH (xH (xH (wO f154))))=1:=by kernel_rfl
  have k8:lP (uK (xH (xH (xH (wO f154)))))=true:=by kernel_rfl
  have k9:C6 (xX (uK (xH (xH (xH (wO f154))))))[2]? = some (some 10,193,#[.tmp 9]):=by kernel_rfl
  have k10:(f193.name == "runtime.NumGoroutine")=false:=by kernel_rfl
  have k11:f193.body.isNone=false:=by kernel_rfl
  have x1:tY prog uQ 3000 (.run (uK (wO f154))) [] ([zH zI p0 .no]++List.replicate (f154.ntmps-1) (.val undef)) (gA []) []=some (.fin .normal,[zH zI p0 .no,.val undef,ab false,.val undef,.val undef,.val undef,.val undef,.val undef,.val undef,.val undef,.val undef,.val undef,.val undef,.val undef,.val undef],⟨[],0,[],0,[]⟩,[],[]):=by kernel_rfl
  have x2:tY prog uQ 3000 (.run (uK (xH (wO f154)))) [] [zH zI p0 .no,.val undef,ab false,.val undef,.val undef,.val undef,.val undef,.val undef,.val undef,.val undef,.val undef,.val undef,.val undef,.val undef,.val undef] ⟨[],0,[],0,[]⟩ [.call [] [] 1 (.sl (zF zS l) l.length (.st 0 1)) none]=some (.fin .normal,[zH zI p0 .no,.val undef,ab false,.sl (zF zS l) l.length (.st 0 1),zH zI p0 .no,.sl (zF zS l) l.length (.st 0 1),.val undef,.val undef,.val undef,.val undef,.val undef,.val undef,.val undef,.val undef,.val undef],⟨[],0,[0],1,[]⟩,[],[.call 105 [] [zH zI p0 .no] (.sl (zF zS l) l.length (.st 0 1)) [] 1]):=by kernel_rfl
  have x3:(oE prog uQ (xX (uK (xH (xH (wO f154))))) ((xX (uK (xH (xH (wO f154))))).toList.take 1) 0 [zH zI p0 .no,.val undef,ab false,.sl (zF zS l) l.length (.st 0 1),zH zI p0 .no,.sl (zF zS l) l.length (.st 0 1),.val undef,.val undef,.val undef,.val undef,.val undef,.val undef,.val undef,.val undef,.val undef] ⟨[],0,[0],1,[]⟩ []).map Prod.snd=some ([zH zI p0 .no,.val undef,ab false,.sl (zF zS l) l.length (.st 0 1),zH zI p0 .no,.sl (zF zS l) l.length (.st 0 1),.sl (zF zS l) l.length (.st 0 1),.val undef,.val undef,.val undef,.val undef,.val undef,.val undef,.val undef,.val undef],⟨[],0,[0],1,[]⟩,[],[]):=by kernel_rfl
  have x4:∀j:Nat->Value,(oE prog uQ (xX (uK (xH (xH (wO f154))))) ((xX (uK (xH (xH (wO f154))))).toList.drop 2) 2 (eset (tells [(3,.sl (zF zS (wA l)) (wA l).length .no)] (mutEnv [] j [zH zI p0 .no,.val undef,ab false,.sl (zF zS l) l.length (.st 0 1),zH zI p0 .no,.sl (zF zS l) l.length (.st 0 1),.sl (zF zS l) l.length (.st 0 1),.val undef,.val undef,.val undef,.val undef,.val undef,.val undef,.val undef,.val undef] 0)) (some 7) (.val (.tuple #[]))) (sE [] ⟨[],0,[0],1,[]⟩) []).map Prod.snd=some ([.val (j 0),.val undef,ab false,.sl (zF zS (wA l)) (wA l).length .no,.val (j 4),.val (j 5),.val (j 6),.val (.tuple #[]),.val undef,.val undef,.val undef,.val undef,.val undef,.val undef,.val undef],⟨[],0,[],0,[]⟩,[],[]):=fun j=>by kernel_rfl
  have x5:∀j:Nat->Value,(oE prog uQ (xX (uK (xH (xH (xH (wO f154)))))) ((xX (uK (xH (xH (xH (wO f154)))))).toList.take 2) 0 [.val (j 0),.val undef,ab false,.sl (zF zS (wA l)) (wA l).length .no,.val (j 4),.val (j 5),.val (j 6),.val (.tuple #[]),.val undef,.val undef,.val undef,.val undef,.val undef,.val undef,.val undef] ⟨[],0,[],0,[]⟩ [.call [] [] 1 (.sl (zF zS m) m.length (.st 0 1)) none]).map Prod.snd=some ([.val (j 0),.val undef,ab false,.sl (zF zS (wA l)) (wA l).length .no,.val (j 4),.val (j 5),.val (j 6),.val (.tuple #[]),.sl (zF zS (wA l)) (wA l).length .no,.sl (zF zS m) m.length (.st 0 1),.val undef,.val undef,.val undef,.val undef,.val undef],⟨[],0,[0],1,[]⟩,[],[.call 127 [] [.sl (zF zS (wA l)) (wA l).length .no] (.sl (zF zS m) m.length (.st 0 1)) [] 1]):=fun j=>by kernel_rfl
  have x6:∀j i:Nat->Value,(oE prog uQ (xX (uK (xH (xH (xH (wO f154)))))) ((xX (uK (xH (xH (xH (wO f154)))))).toList.drop 3) 3 (eset (tells [(3,.sl [] (wA l).length .no)] (mutEnv [] i [.val (j 0),.val undef,ab false,.sl (zF zS (wA l)) (wA l).length .no,.val (j 4),.val (j 5),.val (j 6),.val (.tuple #[]),.sl (zF zS (wA l)) (wA l).length .no,.sl (zF zS m) m.length (.st 0 1),.val undef,.val undef,.val undef,.val undef,.val undef] 0)) (some 10) (.sl (zF zS (vN m)) (vN m).length .no)) (sE [] ⟨[],0,[0],1,[]⟩) [.no,.no,.no]).map Prod.snd=some ([.val (j 0),.val undef,ab ((List.length (vN m):Int)==(List.length (wA l):Int)),.sl [] (wA l).length .no,.val (j 4),.val (j 5),.val (j 6),.val (.tuple #[]),.val (i 8),.val (i 9),.sl (zF zS (vN m)) (vN m).length .no,ai (vN m).length,.sl [] (wA l).length .no,ai (wA l).length,ab ((List.length (vN m):Int)==(List.length (wA l):Int))],⟨[],0,[],0,[]⟩,[],[]):=fun j i=>by kernel_rfl
  have x7:∀j i:Nat->Value,jK prog uQ 0 f154 3000 (.run (xH (xH (xH (xH (wO f154)))))) [] [.val (j 0),.val undef,ab ((List.length (vN m):Int)==(List.length (wA l):Int)),.sl [] (wA l).length .no,.val (j 4),.val (j 5),.val (j 6),.val (.tuple #[]),.val (i 8),.val (i 9),.sl (zF zS (vN m)) (vN m).length .no,ai (vN m).length,.sl [] (wA l).length .no,ai (wA l).length,ab ((List.length (vN m):Int)==(List.length (wA l):Int))] ⟨[],0,[],0,[]⟩ [] [] [] [] false=some (ab ((List.length (vN m):Int)==(List.length (wA l):Int)),[],[]):=fun j i=>by kernel_rfl
  refine wZ.body func154 (by kernel_rfl) ?_
  refine Dv.seqP k0 ?_
  refine sZ (Q:=_) wC mixed 3000 (.run (uK (wO f154))) [] _ _ _ _ _ _ _ _ x1 yR.nil ?_
  refine Dv.seqP k1 ?_
  refine sZ (Q:=_) wC mixed 3000 (.run (uK (xH (wO f154)))) [] _ _ _ _ _ _ _ _ x2 (yR.cons (lO (zUZ h2)) yR.nil) ?_
  refine Dv.seqP k2 ?_
  obtain⟨id,z7⟩:=zFm k3
  rw[z7]
  refine Dv.mut wC (na:=(0:Nat)) rfl 1 [] [(3,.sl (zF zS (wA l)) (wA l).length .no)] (.val (.tuple #[])) x3 yR.nil k4 func192 k5 k6 (fun i X h=>by cases h) ?_ x4 yR.nil ?_
  ·intro G0 W hB G w hE hR u hu
   refine(zGt hR (by rfl) hsz hu).mono ?_
   rintro e w' ⟨v,b,S,z1,z2,z3,z4,z5,z6⟩
   refine⟨v,b,S,z1,z2,z3,z4,z5,fun G' _ _ hS=>⟨(z6 G' hS).1,fun q hq u' hu'=>?_⟩⟩
   simp only[List.mem_singleton]at hq
   subst hq
   exact(z6 G' hS).2 u' hu'
  intro j
  refine Dv.seqP k7 ?_
  obtain⟨id2,z8⟩:=zFm k8
  rw[z8]
  refine Dv.mut wC (na:=(0:Nat)) rfl 2 [] [(3,.sl [] (wA l).length .no)] (.sl (zF zS (vN m)) (vN m).length .no) (x5 j) (yR.cons (lO (zVz h5)) yR.nil) k9 func193 k10 k11 (fun i X h=>by cases h) ?_ (x6 j) yR.nil ?_
  ·intro G0 W hB G w hE hR u hu
   refine(t8 hR (by rfl) hsm hu).mono ?_
   rintro e w' ⟨v,b,S,z1,z2,z3,z4,z5,z6⟩
   refine⟨v,b,S,z1,z2,z3,z4,z5,fun G' _ _ hS=>⟨z6 G' hS,fun q hq u' hu'=>?_⟩⟩
   simp only[List.mem_singleton]at hq
   subst hq
   exact V.blind hu'
  intro i
  exact nG (na:=(0:Nat)) wC mixed (x7 j i) yR.nil (by decide)
 ·replace h:=ifF h6 h
  cases h
def zIX(b:Nat)(a:Tm):Option Bool:=
 if a.k==0 then
 if a.n==0 then
 some ((a.sub.length:Int)==0)
 else
 none
 else
 none
theorem zQQ{b a r}(h:zIX b a=some r):Ct 336 [] [xF a] (ab r) [] 0:=⟨by
 unfold zIX at h
 obtain⟨h1,h⟩:=xD h
 have k:=oB 1 h1 o0
 obtain⟨h2,h⟩:=xD h
 cases h
 exact tF ⟨func336,rfl⟩ 3 [] (oB 1 h2 k),⟨⟨tv,tv,⟨tv,dT _⟩,tv⟩,tv⟩,zB,tv,zB⟩
mutual
def I2:Nat->List zK->yD->Option Bool
 |0,_,_=>none
 |d+1,a,b=>
 I3 d a b>>=fun r1=>
 some (decide (r1≥0))
def I3:Nat->List zK->yD->Option Int
 |0,_,_=>none
 |d+1,a,b=>
 qX d a b 0
def qX:Nat->List zK->yD->Int->Option Int
 |0,_,_,_=>none
 |d+1,a,b,e=>
 if decide (e<(a.length:Int))then
 yG a e>>=fun x2=>
 I4 d x2 b>>=fun r4=>
 if r4 then
 none
 else
 qX d a b (xE (e+1))
 else
 some (-1)
def I4:Nat->zK->yD->Option Bool
 |0,_,_=>none
 |d+1,a,b=>
 kE d b a>>=fun r1=>
 some (!r1)
def kE:Nat->yD->zK->Option Bool
 |0,_,_=>none
 |d+1,a,c=>
 if c.kind_==1 then
 if decide (c.n_≥0)then
 if decide (c.n_≤1048576)then
 if (c.sub_.length:Int)==0 then
 zIX d c.t_>>=fun r5=>
 some r5
 else
 none
 else
 none
 else
 none
 else
 if c.kind_==3 then
 none
 else
 if c.kind_==4 then
 if c.n_==0 then
 if (c.sub_.length:Int)==0 then
 zIX d c.t_>>=fun r15=>
 some r15
 else
 none
 else
 none
 else
 if c.kind_==2 then
 zMg d a c.n_>>=fun r18=>
 if r18 != (c.sub_.length:Int)then
 none
 else
 zIX d c.t_>>=fun r21=>
 if r21 then
 I2 d c.sub_ a>>=fun r24=>
 some (!r24)
 else
 none
 else
 none
end
abbrev zIY (a:List zK) (b:yD) (r:Bool) (C:Cf):Prop:=C 337 [.cells [zH yE b .no]] [zH zI a .no,.clo 338 [] [.mp 0 0]] (ab r) [.cells [zH yE b .no]] 0
abbrev zIZ (a:List zK) (b:yD) (r:Int) (C:Cf):Prop:=C 407 [.cells [zH yE b .no]] [zH zI a .no,.clo 338 [] [.mp 0 0]] (ai r) [.cells [zH yE b .no]] 0
abbrev zJz (a:zK) (b:yD) (r:Bool) (C:Cf):Prop:=C 338 [.cells [zH yE b .no]] [xZ a,.mp 0 0] (ab r) [.cells [zH yE b .no]] 0
abbrev fH (a:yD) (c:zK) (r:Bool) (C:Cf):Prop:=C 241 [] [zH yE a .no,xZ c] (ab r) [] 0
theorem I5:Qf 241 f241:=⟨func241,rfl⟩
theorem I6{a c r}(h:fH a c r Ci):fH a c r Ct:=⟨h,⟨⟨tv,dE _⟩,⟨tv,tv,tv,⟨tv,zX _⟩,tv,tv,⟨tv,dT _⟩,tv⟩,tv⟩,zB,tv,zB⟩
theorem uC:∀d:Nat,(∀ {a b r},I2 d a b=some r->zIY a b r Ct)∧(∀ {a b r},I3 d a b=some r->zIZ a b r Ct)∧(∀ {a b e r},qX d a b e=some r->(∀j,dL 1 (pt 949 f407) (sp j 19 0 [(0,zH zI a .no),(1,.clo 338 [] [.mp 0 0]),(7,ai (a.length:Int)),(8,ai e)]) (⟨[(0,.cells [zH yE b .no])],1,[],0,[]⟩) (fQ 1 (nQ 1 f407 (ai r) [.cells [zH yE b .no]] 0) [.blk 0,.seq (pt 15 f407)])))∧(∀ {a b r},I4 d a b=some r->zJz a b r Ct)∧(∀ {a c r},kE d a c=some r->fH a c r Ct):=by
 intro d
 induction d with
 |zero=>
  exact⟨fun h=>nn h,fun h=>nn h,fun h=>nn h,fun h=>nn h,fun h=>nn h⟩
 |succ d ih=>
  obtain⟨zGs,zGr,fI,zGq,zGp⟩:=ih
  refine⟨?_,?_,?_,?_,?_⟩
  intro a b r h
  rw[I2]at h
  obtain⟨r1,h2,h⟩:=zD h
  obtain rfl:=sj h
  exact⟨tF ⟨func337,rfl⟩ 1 [0] (oD (dE b)<|oC 0 [0] (zGr h2) o0),⟨⟨tv,zX _⟩,⟨tv,⟨(lz rfl),tv⟩⟩,tv⟩,(zA ⟨⟨tv,dE _⟩,tv⟩ zB),tv,(zA ⟨dE _,tv⟩ zB)⟩
  intro a b r h
  rw[I3]at h
  exact⟨tH ⟨func407,rfl⟩ 1 [] [0] [] [0,1,7,8] (oD (zX a)<|oD (dE b) o0) (fI h),⟨⟨tv,zX _⟩,⟨tv,⟨(lz rfl),tv⟩⟩,tv⟩,(zA ⟨⟨tv,dE _⟩,tv⟩ zB),tv,(zA ⟨dE _,tv⟩ zB)⟩
  intro a b e r h
  rw[qX]at h
  obtain⟨h1,h⟩|⟨h1,h⟩:=xA h
  obtain⟨x2,h3,h⟩:=zD h
  obtain⟨r4,h5,h⟩:=zD h
  have k:=oA 0 (lZ (o:=.no) h3)<|oB 0 h1 o0
  obtain⟨h6,h⟩:=zT h
  exact fun j=>lH 1 [] [0] [] [0,1,7,8] (oD (zX a)<|oD (dE b)<|oK 1 [0] h6 (zGq h5) k) (fI h)
  obtain rfl:=sj h
  exact fun j=>lF 0 [0] (oD (dE b)<|oB 0 h1 o0)
  intro a b r h
  rw[I4]at h
  obtain⟨r1,h2,h⟩:=zD h
  obtain rfl:=sj h
  exact⟨tF ⟨func338,rfl⟩ 1 [0] (oD (dE b)<|oC 2 [] (zGp h2) o0),⟨⟨tv,tv,tv,⟨tv,zX _⟩,tv,tv,⟨tv,dT _⟩,tv⟩,(lz rfl),tv⟩,(zA ⟨⟨tv,dE _⟩,tv⟩ zB),tv,(zA ⟨dE _,tv⟩ zB)⟩
  intro a c r h
  rw[kE]at h
  obtain⟨h1,h⟩|⟨h1,h⟩:=xA h
  have k:=oB 1 h1 o0
  obtain⟨h2,h⟩:=xD h
  have k:=oB 1 h2 k
  obtain⟨h3,h⟩:=xD h
  have k:=oB 1 h3 k
  obtain⟨h4,h⟩:=xD h
  obtain⟨r5,h6,h⟩:=zD h
  obtain rfl:=sj h
  exact I6 (tF I5 0 [] (oC 1 [] (zQQ h6)<|oB 2 h4 k))
  have k:=oB 1 h1 o0
  obtain⟨h7,h⟩:=zT h
  have k:=oB 0 h7 k
  obtain⟨h12,h⟩|⟨h12,h⟩:=xA h
  have k:=oB 0 h12 k
  obtain⟨h13,h⟩:=xD h
  have k:=oB 1 h13 k
  obtain⟨h14,h⟩:=xD h
  obtain⟨r15,h16,h⟩:=zD h
  obtain rfl:=sj h
  exact I6 (tF I5 0 [] (oC 1 [] (zQQ h16)<|oB 2 h14 k))
  have k:=oB 0 h12 k
  obtain⟨h17,h⟩:=xD h
  obtain⟨r18,h19,h⟩:=zD h
  have k:=rF 0<|oC 2 [] (zUI h19)<|oB 0 h17 k
  obtain⟨h20,h⟩:=zT h
  obtain⟨r21,h22,h⟩:=zD h
  have k:=oB 1 h20 k
  obtain⟨h23,h⟩:=xD h
  obtain⟨r24,h25,h⟩:=zD h
  obtain rfl:=sj h
  exact I6 (tF I5 1 [] (oC 2 [0] (zGs h25)<|oK 1 [] h23 (zQQ h22) k))
theorem zJy{d a c r}(h:kE d a c=some r):fH a c r Ct:=(uC _).2.2.2.2 h
def zMC(a:Nat)(b:yD)(c:zK):Option Bool:=
 e66 a b>>=fun r1=>
 if r1 then
 zMB a c>>=fun r4=>
 if r4 then
 kE a b c>>=fun r7=>
 some r7
 else
 none
 else
 none
theorem zVy{a b c r}(h:zMC a b c=some r):Ct 155 [] [zH yE b .no,xZ c] (ab r) [] 0:=⟨by
 unfold zMC at h
 obtain⟨r1,h2,h⟩:=zD h
 obtain⟨h3,h⟩:=xD h
 obtain⟨r4,h5,h⟩:=zD h
 have k:=oK 0 [] h3 (c66 h2) o0
 obtain⟨h6,h⟩:=xD h
 obtain⟨r7,h8,h⟩:=zD h
 obtain rfl:=sj h
 exact tF ⟨func155,rfl⟩ 0 [] (oC 1 [] (zJy h8)<|oK 1 [] h6 (zUT h5) k),⟨⟨tv,dE _⟩,⟨tv,tv,tv,⟨tv,zX _⟩,tv,tv,⟨tv,dT _⟩,tv⟩,tv⟩,zB,tv,zB⟩
mutual
def nW:Nat->yD->yD->xS->zU->zU->zW->(List (List zK))->yD->Int->Option Bool
 |0,_,_,_,_,_,_,_,_,_=>none
 |s+1,f,g,m,n,p,e,d,r1,q=>
 if decide (q<(d.length:Int))then
 uR d.length q>>=fun x13=>
 yG d (x13:Int)>>=fun x15=>
 if (x15.length:Int) != (e.length:Int)then
 none
 else
 zQP s x15>>=fun r18=>
 if r18 then
 nX s f g m n p e d r1 q x15 0
 else
 none
 else
 some true
def nX:Nat->yD->yD->xS->zU->zU->zW->(List (List zK))->yD->Int->List zK->Int->Option Bool
 |0,_,_,_,_,_,_,_,_,_,_,_=>none
 |s+1,f,g,m,n,p,e,d,r1,q,x15,u=>
 if decide (u<(x15.length:Int))then
 yG x15 u>>=fun x22=>
 zMC s r1 x22>>=fun r24=>
 if r24 then
 nX s f g m n p e d r1 q x15 (xE (u+1))
 else
 none
 else
 nW s f g m n p e d r1 (xE (q+1))
end
def nY:Nat->yD->yD->xS->zU->zU->zW->(List (List zK))->yD->Int->Option Bool
 |0,_,_,_,_,_,_,_,_,_=>none
 |s+1,f,g,m,n,p,e,d,r1,t=>
 if decide (t<(e.length:Int))then
 yG e t>>=fun x4=>
 iP s x4 t (r1.length:Int)>>=fun r6=>
 if r6 then
 e62 s x4>>=fun r9=>
 if decide ((r9.length:Int)>0)then
 none
 else
 nY s f g m n p e d r1 (xE (t+1))
 else
 none
 else
 nW s f g m n p e d r1 0
def s4(s:Nat)(f g:yD)(m:xS)(n p:zU)(e:zW)(d:List (List zK)):Option Bool:=
 e56 s (xR.mk f g m n p)>>=fun r1=>
 nY s f g m n p e d r1 0
theorem kF:∀s:Nat,(∀ {f g m n p e d r1 q r},nW s f g m n p e d r1 q=some r->(∀j,dL 3 (pt 65461 f96) (sp j 66 0 [(1,zH zC e .no),(7,zH yE r1 .no),(38,.ms 2 0 d.length d.length 1),(39,ai (d.length:Int)),(40,ai q)]) (⟨[(0,qB f 1 n p),(1,qR g m),(2,.row (zF (yO zI) d))],3,[],0,[]⟩) (fQ 3 (nQ 3 f96 (ab r) [qB f 1 n p,qR g m,.row (zF (yO zI) d)] 0) [.blk 2,.seq (pt 1023 f96)])))∧(∀ {f g m n p e d r1 q x15 u r},nX s f g m n p e d r1 q x15 u=some r->(∀j,dL 3 (pt 17160464373 f96) (sp j 66 0 [(1,zH zC e .no),(7,zH yE r1 .no),(38,.ms 2 0 d.length d.length 1),(39,ai (d.length:Int)),(40,ai q),(54,zH zI x15 .no),(55,ai (x15.length:Int)),(56,ai u)]) (⟨[(0,qB f 1 n p),(1,qR g m),(2,.row (zF (yO zI) d))],3,[],0,[]⟩) (fQ 3 (nQ 3 f96 (ab r) [qB f 1 n p,qR g m,.row (zF (yO zI) d)] 0) [.blk 4,.blk 3,.seq (pt 4189567 f96),.loop (pt 65461 f96),.blk 2,.seq (pt 1023 f96)]))):=by
 intro s
 induction s with
 |zero=>
  exact⟨fun h=>nn h,fun h=>nn h⟩
 |succ s ih=>
  obtain⟨zBi,dV⟩:=ih
  refine⟨?_,?_⟩
  intro f g m n p e d r1 q r h
  rw[nW]at h
  obtain⟨h12,h⟩|⟨h12,h⟩:=xA h
  obtain⟨x13,h14,h⟩:=zD h
  obtain⟨x15,h16,h⟩:=zD h
  have k:=oG (a:=(zH zI x15 .no)) 0 (U1 (xQ zG) h16 (false,1) (val:=zH zI x15 .no) rfl)<|oA 0 (U7 (b:=2) (c:=List.length d) (z:=1) h14)<|oB 0 h12 o0
  obtain⟨h17,h⟩:=zT h
  obtain⟨r18,h19,h⟩:=zD h
  have k:=oB 2 h17 k
  obtain⟨h20,h⟩:=xD h
  exact fun j=>lH 2 [] [0,1,2] [] [1,7,38,39,40,54,55,56] (oD (zX x15)<|oD (dE r1)<|oD (dT e)<|oD ((yP zG) d)<|wS f g m n p<|oK 0 [] h20 (zXY h19) k) (dV h)
  cases h
  exact fun j=>lF 0 [0,1,2] (oD ((yP zG) d)<|wS f g m n p<|oB 0 h12 o0)
  intro f g m n p e d r1 q x15 u r h
  rw[nX]at h
  obtain⟨h21,h⟩|⟨h21,h⟩:=xA h
  obtain⟨x22,h23,h⟩:=zD h
  obtain⟨r24,h25,h⟩:=zD h
  have k:=oA 0 (lZ (o:=.no) h23)<|oB 0 h21 o0
  obtain⟨h26,h⟩:=xD h
  exact fun j=>lH 2 [] [0,1,2] [] [1,7,38,39,40,54,55,56] (oD (zX x15)<|oD (dE r1)<|oD (dT e)<|oD ((yP zG) d)<|wS f g m n p<|oK 3 [] h26 (zVy h25) k) (dV h)
  exact fun j=>lH 1 [] [0,1,2] [] [1,7,38,39,40] (oD (dE r1)<|oD (dT e)<|oD ((yP zG) d)<|wS f g m n p<|oB 0 h21 o0) (zBi h)
theorem zDp:∀s:Nat,(∀ {f g m n p e d r1 t r},nY s f g m n p e d r1 t=some r->(∀j,dL 3 (pt 16309 f96) (sp j 66 0 [(1,zH zC e .no),(2,.ms 2 0 d.length d.length 1),(7,zH yE r1 .no),(18,zH zC e .no),(19,ai (e.length:Int)),(20,ai t)]) (⟨[(0,qB f 1 n p),(1,qR g m),(2,.row (zF (yO zI) d))],3,[],0,[]⟩) (fQ 3 (nQ 3 f96 (ab r) [qB f 1 n p,qR g m,.row (zF (yO zI) d)] 0) [.blk 0,.seq (pt 255 f96)]))):=by
 intro s
 induction s with
 |zero=>
  exact fun h=>nn h
 |succ s ih=>
  intro f g m n p e d r1 t r h
  rw[nY]at h
  obtain⟨h3,h⟩|⟨h3,h⟩:=xA h
  obtain⟨x4,h5,h⟩:=zD h
  obtain⟨r6,h7,h⟩:=zD h
  have k:=oA 0 (wN (o:=.no) h5)<|oB 0 h3 o0
  obtain⟨h8,h⟩:=xD h
  obtain⟨r9,h10,h⟩:=zD h
  have k:=oC 2 [] (c62 h10)<|oK 4 [] h8 (eU h7) k
  obtain⟨h11,h⟩:=zT h
  exact fun j=>lH 1 [] [0,1,2] [] [1,2,7,18,19,20] (oD (dT e)<|oD (dE r1)<|oD (dT e)<|oD ((yP zG) d)<|wS f g m n p<|oB 1 h11 k) (ih h)
  exact fun j=>lH 1 [] [0,1,2] [] [1,7,38,39,40] (oD (dE r1)<|oD (dT e)<|oD ((yP zG) d)<|wS f g m n p<|oB 0 h3 o0) ((kF _).1 h)
theorem zMD{s f g m n p e d r}(h:s4 s f g m n p e d=some r):Ct 96 [qB f 1 n p,qR g m,.row (zF (yO zI) d)] [.mp 0 0,zH zC e .no,.ms 2 0 d.length d.length 1] (ab r) [qB f 1 n p,qR g m,.row (zF (yO zI) d)] 0:=⟨by
 unfold s4 at h
 obtain⟨r1,h2,h⟩:=zD h
 exact tH ⟨func96,rfl⟩ 1 [] [0,1,2] [] [1,2,7,18,19,20] (oD (dT e)<|oD (dE r1)<|oD (dT e)<|oD ((yP zG) d)<|wS f g m n p<|oC 1 [0,1] (c56 h2) o0) (zDp _ h),⟨(lz rfl),⟨tv,dT _⟩,(lz rfl),tv⟩,(vY (lz rfl) (zA ((yP zG) _) zB)),tv,(vQ (lz rfl) (zA ((yP zG) _) zB))⟩
def zQR(b:Nat)(a:Int):Option Bool:=
 if decide (a≥0)then
 some (decide (a≤1048576))
 else
 none
theorem zXZ{b a r}(h:zQR b a=some r):Ct 242 [] [ai a] (ab r) [] 0:=⟨by
 unfold zQR at h
 obtain⟨h1,h⟩:=xD h
 cases h
 exact tF ⟨func242,rfl⟩ 1 [] (oB 0 h1 o0),⟨tv,tv⟩,zB,tv,zB⟩
def bW:Nat->xN->Int->(List (Int×Int))->Option ((List (Int×Int)))
 |0,_,_,_=>none
 |d+1,b,c,a=>
 if decide (c<(b.length:Int))then
 yG b c>>=fun x2=>
 zQR d x2.n_>>=fun r4=>
 if r4 then
 jX d x2.type_>>=fun r7=>
 if r7 then
 if decide ((b.length:Int)>256)then
 none
 else
 if zFg a x2.n_ then
 none
 else
 bW d b (xE (c+1)) (D4 a x2.n_ c)
 else
 none
 else
 none
 else
 some a
def zME(d:Nat)(b:xN):Option ((List (Int×Int))):=
 bW d b 0 ([]:List (Int×Int))
theorem zMF:∀d:Nat,(∀ {b c a r},bW d b c a=some r->(∀j,dL 0 (pt 4021 f156) (sp j 47 0 [(0,zH zJ b .no),(4,.obj 0),(10,zH zJ b .no),(11,ai (b.length:Int)),(12,ai c)]) (⟨[(0,iL a)],1,[],0,[]⟩) (fQ 0 (nQ 0 f156 (.tup [.obj 0,ab true]) [iL r] 0) [.blk 0,.seq (pt 63 f156)]))):=by
 intro d
 induction d with
 |zero=>
  exact fun h=>nn h
 |succ d ih=>
  intro b c a r h
  rw[bW]at h
  obtain⟨h1,h⟩|⟨h1,h⟩:=xA h
  obtain⟨x2,h3,h⟩:=zD h
  obtain⟨r4,h5,h⟩:=zD h
  have k:=oA 0 (gX (o:=.no) h3)<|oB 0 h1 o0
  obtain⟨h6,h⟩:=xD h
  obtain⟨r7,h8,h⟩:=zD h
  have k:=oK 3 [] h6 (zXZ h5) k
  obtain⟨h9,h⟩:=xD h
  have k:=oK 2 [] h9 (jM h8) k
  obtain⟨h10,h⟩:=zT h
  have k:=oL 1 (zHO a x2.n_)<|oB 2 h10 k
  obtain⟨h11,h⟩:=zT h
  exact fun j=>lH 1 [] [0] [] [0,4,10,11,12] (oD (zE b)<|oD (zE b)<|oU 2 (zOK a x2.n_ c)<|oB 1 h11 k) (ih h)
  obtain rfl:=sj h
  exact fun j=>lF 0 [0] (oB 0 h1 o0)
theorem zVx{d b r}(h:zME d b=some r):Ct 156 [] [zH zJ b .no] (.tup [.obj 0,ab true]) [iL r] 0:=⟨by
 unfold zME at h
 exact tH ⟨func156,rfl⟩ 1 [] [0] [] [0,4,10,11,12] (oD (zE b)<|oD (zE b) o0) (zMF _ h),⟨⟨tv,zE _⟩,tv⟩,zB,⟨(lz rfl),tv,tv⟩,(zA tv zB)⟩
mutual
def s5:Nat->xN->(List (Int×Int))->Int->Option Bool
 |0,_,_,_=>none
 |c+1,b,r1,a=>
 if decide (a<(b.length:Int))then
 yG b a>>=fun x5=>
 e61 c x5.type_>>=fun r7=>
 if decide (r7>0)then
 none
 else
 e62 c x5.type_>>=fun r10=>
 s6 c b r1 a r10 0
 else
 some true
def s6:Nat->xN->(List (Int×Int))->Int->zU->Int->Option Bool
 |0,_,_,_,_,_=>none
 |c+1,b,r1,a,r10,d=>
 if decide (d<(r10.length:Int))then
 yG r10 d>>=fun x13=>
 if zFg r1 x13 then
 if decide ((zHk r1 x13)≥a)then
 none
 else
 s6 c b r1 a r10 (xE (d+1))
 else
 none
 else
 s5 c b r1 (xE (a+1))
end
def e97(c:Nat)(b:xN):Option Bool:=
 zME c b>>=fun r1=>
 if (r1.length:Int) != (b.length:Int)then
 none
 else
 s5 c b r1 0
theorem s7:∀c:Nat,(∀ {b r1 a r},s5 c b r1 a=some r->(∀j,dL 0 (pt 16309 f97) (sp j 58 0 [(3,.obj 0),(25,zH zJ b .no),(26,ai (b.length:Int)),(27,ai a)]) (⟨[(0,iL r1)],1,[],0,[]⟩) (fQ 0 (nQ 0 f97 (ab r) [] 0) [.blk 0,.seq (pt 255 f97)])))∧(∀ {b r1 a r10 d r},s6 c b r1 a r10 d=some r->(∀j,dL 0 (pt 4275562485 f97) (sp j 58 0 [(3,.obj 0),(5,ai a),(25,zH zJ b .no),(26,ai (b.length:Int)),(27,ai a),(38,zH zS r10 .no),(39,ai (r10.length:Int)),(40,ai d)]) (⟨[(0,iL r1)],1,[],0,[]⟩) (fQ 0 (nQ 0 f97 (ab r) [] 0) [.blk 2,.blk 1,.seq (pt 1043839 f97),.loop (pt 16309 f97),.blk 0,.seq (pt 255 f97)]))):=by
 intro c
 induction c with
 |zero=>
  exact⟨fun h=>nn h,fun h=>nn h⟩
 |succ c ih=>
  obtain⟨zMG,zEc⟩:=ih
  refine⟨?_,?_⟩
  intro b r1 a r h
  rw[s5]at h
  obtain⟨h4,h⟩|⟨h4,h⟩:=xA h
  obtain⟨x5,h6,h⟩:=zD h
  obtain⟨r7,h8,h⟩:=zD h
  have k:=oC 3 [] (c61 h8)<|oA 0 (gX (o:=.no) h6)<|oB 0 h4 o0
  obtain⟨h9,h⟩:=zT h
  obtain⟨r10,h11,h⟩:=zD h
  exact fun j=>lH 1 [] [0] [] [3,5,25,26,27,38,39,40] (oD (dI r10)<|oD (zE b)<|oC 1 [] (c62 h11)<|oB 0 h9 k) (zEc h)
  cases h
  exact fun j=>lF 0 [] (oB 0 h4 o0)
  intro b r1 a r10 d r h
  rw[s6]at h
  obtain⟨h12,h⟩|⟨h12,h⟩:=xA h
  obtain⟨x13,h14,h⟩:=zD h
  have k:=oL 1 (zHO r1 x13)<|oA 0 (sU (o:=.no) h14)<|oB 0 h12 o0
  obtain⟨h15,h⟩:=xD h
  have k:=oB 1 h15 k
  obtain⟨h16,h⟩:=zT h
  exact fun j=>lH 1 [] [0] [] [3,5,25,26,27,38,39,40] (oD (dI r10)<|oD (zE b)<|oB 0 h16 k) (zEc h)
  exact fun j=>lH 1 [] [0] [] [3,25,26,27] (oD (zE b)<|oB 0 h12 o0) (zMG h)
theorem c97{c b r}(h:e97 c b=some r):Ct 97 [] [zH zJ b .no] (ab r) [] 0:=⟨by
 unfold e97 at h
 obtain⟨r1,h2,h⟩:=zD h
 have k:=oN 3 (zHP r1)<|oC 0 [] (zVx h2) o0
 obtain⟨h3,h⟩:=zT h
 exact tH ⟨func97,rfl⟩ 1 [] [0] [] [3,25,26,27] (oD (zE b)<|oB 1 h3 k) ((s7 _).1 h),⟨⟨tv,zE _⟩,tv⟩,zB,tv,zB⟩
def bX:Nat->xR->xN->Int->Option Bool
 |0,_,_,_=>none
 |c+1,M,a,b=>
 if decide (b<(a.length:Int))then
 yG a b>>=fun x5=>
 cG c M>>=fun r7=>
 iP c x5.type_ 0 r7>>=fun r9=>
 if r9 then
 bX c M a (xE (b+1))
 else
 none
 else
 some true
def zQT(c:Nat)(M:xR)(a:xN):Option Bool:=
 e97 c a>>=fun r1=>
 if r1 then
 bX c M a 0
 else
 none
theorem zMH:∀c:Nat,(∀ {M a b r},bX c M a b=some r->(∀j,dL 2 (pt 4021 f287) (sp j 27 0 [(0,.mp 0 0),(14,zH zJ a .no),(15,ai (a.length:Int)),(16,ai b)]) (⟨[(0,mB M 1),(1,mR M)],2,[],0,[]⟩) (fQ 2 (nQ 2 f287 (ab r) [mB M 1,mR M] 0) [.blk 0,.seq (pt 63 f287)]))):=by
 intro c
 induction c with
 |zero=>
  exact fun h=>nn h
 |succ c ih=>
  intro M a b r h
  rw[bX]at h
  obtain⟨h4,h⟩|⟨h4,h⟩:=xA h
  obtain⟨x5,h6,h⟩:=zD h
  obtain⟨r7,h8,h⟩:=zD h
  obtain⟨r9,h10,h⟩:=zD h
  have k:=oC 3 [0,1] (R5 h8)<|oA 0 (gX (o:=.no) h6)<|oB 0 h4 o0
  obtain⟨h11,h⟩:=xD h
  exact fun j=>lH 2 [] [0,1] [] [0,14,15,16] (oD (zE a)<|tB M<|oK 0 [] h11 (eU h10) k) (ih h)
  cases h
  exact fun j=>lF 0 [0,1] (tB M<|oB 0 h4 o0)
theorem zYz{c M a r}(h:zQT c M a=some r):Ct 287 [mB M 1,mR M] [.mp 0 0,zH zJ a .no] (ab r) [mB M 1,mR M] 0:=⟨by
 unfold zQT at h
 obtain⟨r1,h2,h⟩:=zD h
 obtain⟨h3,h⟩:=xD h
 exact tH ⟨func287,rfl⟩ 2 [] [0,1] [] [0,14,15,16] (oD (zE a)<|tB M<|oK 1 [] h3 (c97 h2) o0) (zMH _ h),⟨(lz rfl),⟨tv,zE _⟩,tv⟩,(vY (lz rfl) zB),tv,(vQ (lz rfl) zB)⟩
def bY:Nat->xN->Int->Int->Option (Tm×Int)
 |0,_,_,_=>none
 |c+1,a,d,b=>
 if decide (b<(a.length:Int))then
 yG a b>>=fun x2=>
 if x2.n_==d then
 e92 c x2.type_>>=fun r5=>
 some (r5,0)
 else
 bY c a d (xE (b+1))
 else
 none
def zMI(c:Nat)(a:xN)(d:Int):Option (Tm×Int):=
 bY c a d 0
theorem zMJ:∀c:Nat,(∀ {a d b r},bY c a d b=some r->(∀j,dL 0 (pt 949 f269) (sp j 23 0 [(1,ai d),(4,.mp 0 0),(8,zH zJ a .no),(9,ai (a.length:Int)),(10,ai b)]) (⟨[(0,.cells [ai 0,ai 0,zH zC ([]:zW) .nl])],1,[],0,[]⟩) (fQ 0 (nQ 0 f269 (.tup [xF r.1,ai r.2]) [] 0) [.blk 0,.seq (pt 15 f269)]))):=by
 intro c
 induction c with
 |zero=>
  exact fun h=>nn h
 |succ c ih=>
  intro a d b r h
  rw[bY]at h
  obtain⟨h1,h⟩:=xD h
  obtain⟨x2,h3,h⟩:=zD h
  have k:=oA 0 (gX (o:=.no) h3)<|oB 0 h1 o0
  obtain⟨h4,h⟩|⟨h4,h⟩:=xA h
  obtain⟨r5,h6,h⟩:=zD h
  cases h
  exact fun j=>lF 1 [] (oD (dT r5.sub)<|oC 1 [] (c92 h6)<|oB 3 h4 k)
  exact fun j=>lH 1 [] [0] [] [1,4,8,9,10] (oD (zE a)<|oD (dT ([]:zW))<|oB 3 h4 k) (ih h)
theorem zVv{c a d r}(h:zMI c a d=some r):Ct 269 [] [zH zJ a .no,ai d] (.tup [xF r.1,ai r.2]) [] 0:=⟨by
 unfold zMI at h
 exact tH ⟨func269,rfl⟩ 1 [] [0] [] [1,4,8,9,10] (oD (zE a)<|oD (dT ([]:zW)) o0) (zMJ _ h),⟨⟨tv,zE _⟩,tv,tv⟩,zB,⟨⟨tv,tv,dT _,tv⟩,tv,tv⟩,zB⟩
def zQU(a:Nat)(M:xR)(b:yD)(c:xN)(d e f:Int):Option (Int×zW×zW×Int×Int×Int):=
 zMI a c d>>=fun r1=>
 if r1.2 != 0 then
 none
 else
 w7 a M r1.1 e f>>=fun r4=>
 if r4.2.1 != 0 then
 none
 else
 cF a r4.1>>=fun r7=>
 if r7.1.k != 6 then
 none
 else
 yG b r7.1.n>>=fun x10=>
 if x10.kind != 1 then
 none
 else
 if (r7.2.length:Int) != (xE (x10.pars+x10.inds))then
 none
 else
 C4 r7.2 0 x10.pars>>=fun x14=>
 C4 r7.2 x10.pars (r7.2.length:Int)>>=fun x16=>
 some (r7.1.n,x14,x16,0,r4.2.2.1,r4.2.2.2)
theorem zYy{a M b c d e f r}(h:zQU a M b c d e f=some r):Ct 288 [mB M 1,mR M,.cells [ai e,ai f]] [.mp 0 0,zH yE b .no,zH zJ c .no,ai d,.mp 2 0] (.tup [ai r.1,.sl (zF zC r.2.1) r.2.1.length .no,.sl (zF zC r.2.2.1) r.2.2.1.length .no,ai r.2.2.2.1]) [mB M 1,mR M,.cells [ai r.2.2.2.2.1,ai r.2.2.2.2.2]] 0:=⟨by
 unfold zQU at h
 obtain⟨r1,h2,h⟩:=zD h
 have k:=oC 0 [] (zVv h2) o0
 obtain⟨h3,h⟩:=zT h
 obtain⟨r4,h5,h⟩:=zD h
 have k:=oC 1 [0,1,2] (zDu h5)<|oB 3 h3 k
 obtain⟨h6,h⟩:=zT h
 obtain⟨r7,h8,h⟩:=zD h
 have k:=oC 1 [] (E7 h8)<|oB 3 h6 k
 obtain⟨h9,h⟩:=zT h
 obtain⟨x10,h11,h⟩:=zD h
 have k:=oA 1 (vF (o:=.no) h11)<|oB 4 h9 k
 obtain⟨h12,h⟩:=zT h
 have k:=oA 2 (vF (o:=.no) h11)<|oA 2 (vF (o:=.no) h11)<|oB 1 h12 k
 obtain⟨h13,h⟩:=zT h
 obtain⟨x14,h15,h⟩:=zD h
 obtain⟨x16,h17,h⟩:=zD h
 cases h
 exact tF ⟨func288,rfl⟩ 0 [0,1,2] (oD (dT x16)<|oD (dT x14)<|tB M<|oA 0 (kA h17)<|oA 2 (zAB (o:=.no) h15)<|oA 1 (vF (o:=.no) h11)<|oB 2 h13 k),⟨(lz rfl),⟨tv,dE _⟩,⟨tv,zE _⟩,tv,(lz rfl),tv⟩,(vY (lz rfl) (zA ⟨tv,tv,tv⟩ zB)),⟨tv,dT _,dT _,tv,tv⟩,(vQ (lz rfl) (zA ⟨tv,tv,tv⟩ zB))⟩
def zMK(b:Nat)(M:xR)(a:xN)(c d e:Int):Option (Int×Int×Int×Int×yD×xN×Int×zW×zW):=
 zQT b M a>>=fun r1=>
 if r1 then
 e56 b M>>=fun r4=>
 zQU b M r4 a c d e>>=fun r6=>
 some (r6.1,r6.2.2.2.1,r6.2.2.2.2.1,r6.2.2.2.2.2,r4,a,c,r6.2.1,r6.2.2.1)
 else
 none
theorem zVu{b M a c d e r}(h:zMK b M a c d e=some r):Ct 187 [mB M 1,mR M,.cells [ai d,ai e]] [.mp 0 0,zH zJ a .no,ai c,.mp 2 0] (.tup [.mp 3 0,ai r.1,ai r.2.1]) [mB M 1,mR M,.cells [ai r.2.2.1,ai r.2.2.2.1],.cells [.mp 0 0,zH yE r.2.2.2.2.1 .no,zH zJ r.2.2.2.2.2.1 .no,ai r.2.2.2.2.2.2.1,.mp 2 0,zH zC r.2.2.2.2.2.2.2.1 .no,zH zC r.2.2.2.2.2.2.2.2 .no]] 0:=⟨by
 unfold zMK at h
 obtain⟨r1,h2,h⟩:=zD h
 obtain⟨h3,h⟩:=xD h
 obtain⟨r4,h5,h⟩:=zD h
 obtain⟨r6,h7,h⟩:=zD h
 cases h
 exact tF ⟨func187,rfl⟩ 6 [0,1,2,3] (oD (dT r6.2.2.1)<|oD (dT r6.2.1)<|oD (zE a)<|oD (dE r4)<|tB M<|oC 1 [0,1,2] (zYy h7)<|oC 1 [0,1] (c56 h5)<|oK 0 [0,1] h3 (zYz h2) o0),⟨(lz rfl),⟨tv,zE _⟩,tv,(lz rfl),tv⟩,(vY (lz rfl) (zA ⟨tv,tv,tv⟩ zB)),⟨(lz rfl),tv,tv,tv⟩,(vQ (lz rfl) (zA ⟨tv,tv,tv⟩ (zA ⟨(lz rfl),dE _,zE _,tv,(lz rfl),dT _,dT _,tv⟩ zB)))⟩
def bZ:Nat->zU->Int->Int->Option Int
 |0,_,_,_=>none
 |c+1,a,b,d=>
 if decide (d<(a.length:Int))then
 yG a d>>=fun x2=>
 if b==x2 then
 some d
 else
 bZ c a b (xE (d+1))
 else
 some (-1)
def zQV(c:Nat)(a:zU)(b:Int):Option Int:=
 bZ c a b 0
theorem zML:∀c:Nat,(∀ {a b d r},bZ c a b d=some r->(∀j,dL 0 (pt 949 f372) (sp j 19 0 [(0,zH zS a .no),(1,ai b),(7,ai (a.length:Int)),(8,ai d)]) (⟨[],0,[],0,[]⟩) (fQ 0 (nQ 0 f372 (ai r) [] 0) [.blk 0,.seq (pt 15 f372)]))):=by
 intro c
 induction c with
 |zero=>
  exact fun h=>nn h
 |succ c ih=>
  intro a b d r h
  rw[bZ]at h
  obtain⟨h1,h⟩|⟨h1,h⟩:=xA h
  obtain⟨x2,h3,h⟩:=zD h
  have k:=oA 0 (sU (o:=.no) h3)<|oB 0 h1 o0
  obtain⟨h4,h⟩|⟨h4,h⟩:=xA h
  obtain rfl:=sj h
  exact fun j=>lF 0 [] (oB 1 h4 k)
  exact fun j=>lH 1 [] [] [] [0,1,7,8] (oD (dI a)<|oB 1 h4 k) (ih h)
  obtain rfl:=sj h
  exact fun j=>lF 0 [] (oB 0 h1 o0)
theorem zYx{c a b r}(h:zQV c a b=some r):Ct 372 [] [zH zS a .no,ai b] (ai r) [] 0:=⟨by
 unfold zQV at h
 exact tH ⟨func372,rfl⟩ 1 [] [] [] [0,1,7,8] (oD (dI a) o0) (zML _ h),⟨⟨tv,dI _⟩,tv,tv⟩,zB,tv,zB⟩
def zDo(c:Nat)(a:zU)(b:Int):Option Bool:=
 zQV c a b>>=fun r1=>
 some (decide (r1≥0))
theorem zJx{c a b r}(h:zDo c a b=some r):Ct 289 [] [zH zS a .no,ai b] (ab r) [] 0:=⟨by
 unfold zDo at h
 obtain⟨r1,h2,h⟩:=zD h
 cases h
 exact tF ⟨func289,rfl⟩ 1 [] (oC 0 [] (zYx h2) o0),⟨⟨tv,dI _⟩,tv,tv⟩,zB,tv,zB⟩
def aA:Nat->xN->zU->Int->Option zU
 |0,_,_,_=>none
 |b+1,a,c,d=>
 if decide (d<(a.length:Int))then
 yG a d>>=fun x2=>
 yV 8 c [x2.n_]>>=fun l4=>
 aA b a l4 (xE (d+1))
 else
 some c
def zGo(b:Nat)(a:xN):Option zU:=
 aA b a [] 0
theorem zMM:∀b:Nat,(∀ {a c d r},aA b a c d=some r->(∀j,dL 0 (pt 4021 f104) (sp j 19 0 [(3,zH zS c (.st 0 1)),(6,zH zJ a .no),(7,ai (a.length:Int)),(8,ai d)]) (⟨[],0,[0],1,[]⟩) (fQ 0 (nQ 0 f104 (zH zS r (.st 0 1)) [] 1) [.blk 0,.seq (pt 63 f104)]))):=by
 intro b
 induction b with
 |zero=>
  exact fun h=>nn h
 |succ b ih=>
  intro a c d r h
  rw[aA]at h
  obtain⟨h1,h⟩|⟨h1,h⟩:=xA h
  obtain⟨x2,h3,h⟩:=zD h
  obtain⟨l4,h5,h⟩:=zD h
  exact fun j=>lH 1 [] [] [1] [3,6,7,8] (oD (zE a)<|oD (dI l4)<|oP 4 (sG h5 (by simp))<|oA 0 (gX (o:=.no) h3)<|oB 0 h1 o0) (ih h)
  obtain rfl:=sj h
  exact fun j=>lG 0 [] [] [0] true (oD (dI c)<|oB 0 h1 o0)
theorem zBh{b a r}(h:zGo b a=some r):Ct 104 [] [zH zJ a .no] (zH zS r (.st 0 1)) [] 1:=⟨by
 unfold zGo at h
 exact tH ⟨func104,rfl⟩ 1 [(none,3,1)] [] [0] [3,6,7,8] (oD (zE a)<|oD (dI ([]:zU)) o0) (zMM _ h),⟨⟨tv,zE _⟩,tv⟩,zB,dI _,zB⟩
def I7(d:Nat)(a:Int)(e:Bool)(f g m:Int)(b:zW)(c:Tm)(n:Int):Option (Tm×Int×Bool):=
 zIs d c>>=fun r1=>
 if decide ((xE (a-r1))<0)then
 none
 else
 zFQ d c n>>=fun r6=>
 if r6.2 != 0 then
 none
 else
 some (r6.1,(xE (a-r1)),e)
theorem zJw{d a e f g m b c n r}(h:I7 d a e f g m b c n=some r):Ct 250 [.cells [ai a,ab e,.clo 441 [] [.mp 1 0,.mp 2 0,.mp 3 0]],.cells [ai f],.cells [.mp 0 0],.cells [ai g,ai m,zH zC b .no]] [.mp 0 0,xF c,ai n] (xF r.1) [.cells [ai r.2.1,ab r.2.2,.clo 441 [] [.mp 1 0,.mp 2 0,.mp 3 0]],.cells [ai f],.cells [.mp 0 0],.cells [ai g,ai m,zH zC b .no]] 0:=⟨by
 unfold I7 at h
 obtain⟨r1,h2,h⟩:=zD h
 have k:=oC 1 [] (zPE h2)<|rF 0 o0
 obtain⟨h3,h⟩:=zT h
 obtain⟨r6,h7,h⟩:=zD h
 have k:=oC 1 [] (zMx h7)<|oB 3 h3 k
 obtain⟨h8,h⟩:=zT h
 cases h
 exact tF ⟨func250,rfl⟩ 2 [0,1,2,3] (oD (dT r6.1.sub)<|oD (dT b)<|oB 3 h8 k),⟨(lz rfl),⟨tv,tv,⟨tv,dT _⟩,tv⟩,tv,tv⟩,(zA ⟨tv,tv,⟨tv,⟨(lz rfl),(lz rfl),(lz rfl),tv⟩⟩,tv⟩ (zA ⟨tv,tv⟩ (zA ⟨(lz rfl),tv⟩ (zA ⟨tv,tv,⟨tv,dT _⟩,tv⟩ zB)))),⟨tv,tv,dT _,tv⟩,(zA ⟨tv,tv,⟨tv,⟨(lz rfl),(lz rfl),(lz rfl),tv⟩⟩,tv⟩ (zA ⟨tv,tv⟩ (zA ⟨(lz rfl),tv⟩ (zA ⟨tv,tv,dT _,tv⟩ zB))))⟩
def I8(p:Nat)(g:Tm)(m b c:Int)(d:Bool)(e f:Int)(a:zW):Option (Tm×Bool×Int×Bool):=
 if g.k != 8 then
 some ((Tm.mk 0 0 []),false,c,d)
 else
 if g.n != b then
 some ((Tm.mk 0 0 []),false,c,d)
 else
 I7 p c d b e f a (Tm.mk e f a) m>>=fun r3=>
 some (r3.1,true,r3.2.1,r3.2.2)
theorem I9:Qf 441 f441:=⟨func441,rfl⟩
theorem zJv{p g m b c d e f a r}(h:I8 p g m b c d e f a=some r):Ct 441 [.cells [ai b],.cells [.mp 2 0],.cells [ai c,ab d,.clo 441 [] [.mp 0 0,.mp 1 0,.mp 3 0]],.cells [ai e,ai f,zH zC a .no]] [xF g,ai m,.mp 0 0,.mp 1 0,.mp 3 0] (.tup [xF r.1,ab r.2.1]) [.cells [ai b],.cells [.mp 2 0],.cells [ai r.2.2.1,ab r.2.2.2,.clo 441 [] [.mp 0 0,.mp 1 0,.mp 3 0]],.cells [ai e,ai f,zH zC a .no]] 0:=⟨by
 unfold I8 at h
 obtain⟨h1,h⟩|⟨h1,h⟩:=xA h
 cases h
 exact tF I9 1 [0,1,2,3] (oD (dT ([]:zW))<|oD (dT a)<|oB 1 h1 o0)
 have k:=oB 1 h1 o0
 obtain⟨h2,h⟩|⟨h2,h⟩:=xA h
 cases h
 exact tF I9 1 [0,1,2,3] (oD (dT ([]:zW))<|oD (dT a)<|oB 2 h2 k)
 obtain⟨r3,h4,h⟩:=zD h
 cases h
 exact tF I9 1 [0,1,2,3] (oD (dT r3.1.sub)<|oD (dT a)<|oC 2 [2,0,1,3] (zJw h4)<|oB 2 h2 k),⟨⟨tv,tv,⟨tv,dT _⟩,tv⟩,tv,(lz rfl),(lz rfl),(lz rfl),tv⟩,(zA ⟨tv,tv⟩ (zA ⟨(lz rfl),tv⟩ (zA ⟨tv,tv,⟨tv,⟨(lz rfl),(lz rfl),(lz rfl),tv⟩⟩,tv⟩ (zA ⟨tv,tv,⟨tv,dT _⟩,tv⟩ zB)))),⟨⟨tv,tv,dT _,tv⟩,tv,tv⟩,(zA ⟨tv,tv⟩ (zA ⟨(lz rfl),tv⟩ (zA ⟨tv,tv,⟨tv,⟨(lz rfl),(lz rfl),(lz rfl),tv⟩⟩,tv⟩ (zA ⟨tv,tv,dT _,tv⟩ zB))))⟩
mutual
def qI:Nat->Int->Bool->Int->Int->Int->zW->Tm->Int->Option (Tm×Int×Bool)
 |0,_,_,_,_,_,_,_,_=>none
 |s+1,u,t,f,g,m,e,a,p=>
 if t then
 none
 else
 I8 s a p f u t g m e>>=fun r4=>
 if r4.2.1 then
 some (r4.1,r4.2.2.1,r4.2.2.2)
 else
 if decide ((xE (r4.2.2.1-1))<0)then
 none
 else
 tW s f g m e a p 0 (xE (r4.2.2.1-1)) r4.2.2.2 []
def tW:Nat->Int->Int->Int->zW->Tm->Int->Int->Int->Bool->zW->Option (Tm×Int×Bool)
 |0,_,_,_,_,_,_,_,_,_,_=>none
 |s+1,f,g,m,e,a,p,q,c,d,b=>
 if decide (q<(a.sub.length:Int))then
 yG a.sub q>>=fun x9=>
 if q==1 then
 if a.k != 5 then
 qI s c d f g m e x9 (xE (p+1))>>=fun r13=>
 yV 40 b [r13.1]>>=fun l15=>
 tW s f g m e a p (xE (q+1)) r13.2.1 r13.2.2 l15
 else
 qI s c d f g m e x9 p>>=fun r17=>
 yV 40 b [r17.1]>>=fun l19=>
 tW s f g m e a p (xE (q+1)) r17.2.1 r17.2.2 l19
 else
 qI s c d f g m e x9 p>>=fun r21=>
 yV 40 b [r21.1]>>=fun l23=>
 tW s f g m e a p (xE (q+1)) r21.2.1 r21.2.2 l23
 else
 some ((Tm.mk a.k a.n b),c,d)
end
abbrev fJ (u:Int) (t:Bool) (f g m:Int) (e:zW) (a:Tm) (p:Int) (r:Tm×Int×Bool) (C:Cf):Prop:=C 345 [.cells [ai u,ab t,.clo 441 [] [.mp 1 0,.mp 2 0,.mp 3 0]],.cells [ai f],.cells [.mp 0 0],.cells [ai g,ai m,zH zC e .no]] [.mp 0 0,xF a,ai p] (xF r.1) [.cells [ai r.2.1,ab r.2.2,.clo 441 [] [.mp 1 0,.mp 2 0,.mp 3 0]],.cells [ai f],.cells [.mp 0 0],.cells [ai g,ai m,zH zC e .no]] 0
theorem zBg:Qf 345 f345:=⟨func345,rfl⟩
theorem zBf{u t f g m e a p r}(h:fJ u t f g m e a p r Ci):fJ u t f g m e a p r Ct:=⟨h,⟨(lz rfl),⟨tv,tv,⟨tv,dT _⟩,tv⟩,tv,tv⟩,(zA ⟨tv,tv,⟨tv,⟨(lz rfl),(lz rfl),(lz rfl),tv⟩⟩,tv⟩ (zA ⟨tv,tv⟩ (zA ⟨(lz rfl),tv⟩ (zA ⟨tv,tv,⟨tv,dT _⟩,tv⟩ zB)))),⟨tv,tv,dT _,tv⟩,(zA ⟨tv,tv,⟨tv,⟨(lz rfl),(lz rfl),(lz rfl),tv⟩⟩,tv⟩ (zA ⟨tv,tv⟩ (zA ⟨(lz rfl),tv⟩ (zA ⟨tv,tv,dT _,tv⟩ zB))))⟩
theorem jQ:∀s:Nat,(∀ {u t f g m e a p r},qI s u t f g m e a p=some r->fJ u t f g m e a p r Ct)∧(∀ {f g m e a p q c d b r},tW s f g m e a p q c d b=some r->(∀j,dL 4 (pt 262069 f345) (sp j 79 0 [(0,.mp 0 0),(2,ai p),(4,.mp 4 0),(6,.mp 5 0),(9,.mp 6 0),(51,zH zC a.sub .no),(52,ai (a.sub.length:Int)),(53,ai q)]) (⟨[(0,.cells [ai c,ab d,.clo 441 [] [.mp 1 0,.mp 2 0,.mp 3 0]]),(1,.cells [ai f]),(2,.cells [.mp 0 0]),(3,.cells [ai g,ai m,zH zC e .no]),(4,.cells [ai a.k,ai a.n,zH zC a.sub .no]),(5,.cells [ai 0,ai 0,zH zC ([]:zW) .nl]),(6,.cells [ai a.k,ai a.n,zH zC b (.st 0 3)])],7,[0],1,[]⟩) (fQ 4 (nQ 4 f345 (xF r.1) [.cells [ai r.2.1,ab r.2.2,.clo 441 [] [.mp 1 0,.mp 2 0,.mp 3 0]],.cells [ai f],.cells [.mp 0 0],.cells [ai g,ai m,zH zC e .no]] 0) [.blk 0,.seq (pt 4095 f345)]))):=by
 intro s
 induction s with
 |zero=>
  exact⟨fun h=>nn h,fun h=>nn h⟩
 |succ s ih=>
  obtain⟨eY,rS⟩:=ih
  refine⟨?_,?_⟩
  intro u t f g m e a p r h
  rw[qI]at h
  obtain⟨h1,h⟩:=zT h
  obtain⟨r4,h5,h⟩:=zD h
  have k:=oC 2 [1,2,0,3] (zJv h5)<|oB 0 h1 o0
  obtain⟨h6,h⟩|⟨h6,h⟩:=xA h
  cases h
  exact zBf (tF zBg 3 [0,1,2,3] (oD (dT r4.1.sub)<|oD (dT e)<|oB 1 h6 k))
  have k:=oB 1 h6 k
  obtain⟨h7,h⟩:=zT h
  exact zBf (tH zBg 5 [(some 7,2,3)] [0,1,2,3,4,5,7] [0] [0,2,4,6,9,51,52,53] (oD (dT a.sub)<|oD (dT ([]:zW))<|oD (dT ([]:zW))<|oD (dT a.sub)<|oD (dT e)<|oB 5 h7 k) (rS h))
  intro f g m e a p q c d b r h
  rw[tW]at h
  have z {os ob} (k:Oz os ob):=oD (dT ([]:zW))<|oD (dT a.sub)<|oD (dT e)<|k
  obtain⟨h8,h⟩|⟨h8,h⟩:=xA h
  obtain⟨x9,h10,h⟩:=zD h
  have k:=oA 0 (wN (o:=.no) h10)<|oB 0 h8 o0
  obtain⟨h11,h⟩|⟨h11,h⟩:=xA h
  have k:=oB 2 h11 k
  obtain⟨h12,h⟩|⟨h12,h⟩:=xA h
  obtain⟨r13,h14,h⟩:=zD h
  obtain⟨l15,h16,h⟩:=zD h
  exact fun j=>lH 2 [] [0,1,2,3,4,5,6] [1] [0,2,4,6,9,51,52,53] (oD (dT a.sub)<|oD (dT l15)<|z<|oP 0 (vO h16 (by simp))<|oS 0 (xL xU [r13.1])<|oC 1 [0,1,2,3] (eY h14)<|rF 1<|oB 1 h12 k) (rS h)
  obtain⟨r17,h18,h⟩:=zD h
  obtain⟨l19,h20,h⟩:=zD h
  exact fun j=>lH 2 [] [0,1,2,3,4,5,6] [1] [0,2,4,6,9,51,52,53] (oD (dT a.sub)<|oD (dT l19)<|z<|oP 0 (vO h20 (by simp))<|oS 0 (xL xU [r17.1])<|oC 1 [0,1,2,3] (eY h18)<|rF 0<|oB 1 h12 k) (rS h)
  obtain⟨r21,h22,h⟩:=zD h
  obtain⟨l23,h24,h⟩:=zD h
  exact fun j=>lH 2 [] [0,1,2,3,4,5,6] [1] [0,2,4,6,9,51,52,53] (oD (dT a.sub)<|oD (dT l23)<|z<|oP 0 (vO h24 (by simp))<|oS 0 (xL xU [r21.1])<|oC 1 [0,1,2,3] (eY h22)<|rF 0<|oB 2 h11 k) (rS h)
  cases h
  exact fun j=>lF 2 [0,1,2,3] (oD (dT b)<|oD (dT e)<|oB 0 h8 o0)
theorem zJu{s u t f g m e a p r}(h:qI s u t f g m e a p=some r):fJ u t f g m e a p r Ct:=(jQ _).1 h
def J0(g:Nat)(b:Int)(c:Bool)(d e f:Int)(a:zW):Option Unit:=
 some ()
theorem zJt{g b c d e f a r}(h:J0 g b c d e f a=some r):Ct 440 [.cells [ai b,ab c,.val .nilFunc],.cells [ai d],.cells [ai e,ai f,zH zC a .no]] [.mp 0 0,.mp 1 0,.mp 2 0] (.clo 441 [] [.mp 1 0,.mp 3 0,.mp 2 0]) [.cells [ai b,ab c,.val .nilFunc],.cells [ai d],.cells [ai e,ai f,zH zC a .no],.cells [.mp 0 0]] 0:=⟨by
 unfold J0 at h
 cases h
 exact tF ⟨func440,rfl⟩ 0 [0,1,2,3] (oD (dT a) o0),⟨(lz rfl),(lz rfl),(lz rfl),tv⟩,(zA ⟨tv,tv,tv,tv⟩ (zA ⟨tv,tv⟩ (zA ⟨tv,tv,⟨tv,dT _⟩,tv⟩ zB))),⟨tv,⟨(lz rfl),(lz rfl),(lz rfl),tv⟩⟩,(zA ⟨tv,tv,tv,tv⟩ (zA ⟨tv,tv⟩ (zA ⟨tv,tv,dT _,tv⟩ (zA ⟨(lz rfl),tv⟩ zB))))⟩
def J1(e:Nat)(f:Tm)(b c d:Int)(a:zW):Option (Tm×Int):=
 J0 e 8192 false b c d a>>=fun r1=>
 qI e 8192 false b c d a f 0>>=fun r3=>
 if r3.2.2 then
 none
 else
 jX e r3.1>>=fun r6=>
 if r6 then
 some (r3.1,0)
 else
 none
theorem zJs{e f b c d a r}(h:J1 e f b c d a=some r):Ct 246 [.cells [ai b],.cells [ai c,ai d,zH zC a .no]] [xF f,.clo 440 [] [.mp 0 0,.mp 1 0]] (.tup [xF r.1,ai r.2]) [.cells [ai b],.cells [ai c,ai d,zH zC a .no]] 0:=⟨by
 unfold J1 at h
 obtain⟨r1,h2,h⟩:=zD h
 obtain⟨r3,h4,h⟩:=zD h
 have k:=oC 2 [4,0,5,1] (zJu h4)<|oC 0 [4,0,1] (zJt h2) o0
 obtain⟨h5,h⟩:=zT h
 obtain⟨r6,h7,h⟩:=zD h
 have k:=oB 1 h5 k
 obtain⟨h8,h⟩:=xD h
 cases h
 exact tF ⟨func246,rfl⟩ 3 [0,1] (oD (dT r3.1.sub)<|oD (dT a)<|oK 1 [] h8 (jM h7) k),⟨⟨tv,tv,⟨tv,dT _⟩,tv⟩,⟨tv,⟨(lz rfl),(lz rfl),tv⟩⟩,tv⟩,(zA ⟨tv,tv⟩ (zA ⟨tv,tv,⟨tv,dT _⟩,tv⟩ zB)),⟨⟨tv,tv,dT _,tv⟩,tv,tv⟩,(zA ⟨tv,tv⟩ (zA ⟨tv,tv,dT _,tv⟩ zB))⟩
def zMN(b:Nat)(a:Int):Option Bool:=
 if decide (a≥0)then
 some (decide (a≤1048576))
 else
 none
theorem zVt{b a r}(h:zMN b a=some r):Ct 291 [] [ai a] (ab r) [] 0:=⟨by
 unfold zMN at h
 obtain⟨h1,h⟩:=xD h
 cases h
 exact tF ⟨func291,rfl⟩ 1 [] (oB 0 h1 o0),⟨tv,tv⟩,zB,tv,zB⟩
def zMO(b:Nat)(c a:Tm)(d:Int):Option (Tm×Int):=
 jX b c>>=fun r1=>
 if r1 then
 jX b a>>=fun r4=>
 if r4 then
 zMN b d>>=fun r7=>
 if r7 then
 J1 b c d a.k a.n a.sub>>=fun r10=>
 some (r10.1,r10.2)
 else
 none
 else
 none
 else
 none
theorem zVs{b c a d r}(h:zMO b c a d=some r):Ct 410 [] [xF c,xF a,ai d] (.tup [xF r.1,ai r.2]) [] 0:=⟨by
 unfold zMO at h
 obtain⟨r1,h2,h⟩:=zD h
 obtain⟨h3,h⟩:=xD h
 obtain⟨r4,h5,h⟩:=zD h
 have k:=oK 1 [] h3 (jM h2) o0
 obtain⟨h6,h⟩:=xD h
 obtain⟨r7,h8,h⟩:=zD h
 have k:=oK 2 [] h6 (jM h5) k
 obtain⟨h9,h⟩:=xD h
 obtain⟨r10,h11,h⟩:=zD h
 cases h
 exact tF ⟨func410,rfl⟩ 3 [] (oD (dT r10.1.sub)<|oC 2 [2,1] (zJs h11)<|oK 2 [] h9 (zVt h8) k),⟨⟨tv,tv,⟨tv,dT _⟩,tv⟩,⟨tv,tv,⟨tv,dT _⟩,tv⟩,tv,tv⟩,zB,⟨⟨tv,tv,dT _,tv⟩,tv,tv⟩,zB⟩
def aB:Nat->qD->Int->Int->Int->zW->Option (Tm×Int)
 |0,_,_,_,_,_=>none
 |f+1,d,e,b,c,a=>
 if decide (e<(d.length:Int))then
 yG d e>>=fun x7=>
 zMO f (Tm.mk b c a) x7.t_ x7.n_>>=fun r9=>
 if r9.2 != 0 then
 none
 else
 aB f d (xE (e+1)) r9.1.k r9.1.n r9.1.sub
 else
 some ((Tm.mk b c a),0)
def zMP(f:Nat)(d:qD)(g:Tm):Option (Tm×Int):=
 jX f g>>=fun r1=>
 if r1 then
 e92 f g>>=fun r4=>
 aB f d 0 r4.k r4.n r4.sub
 else
 none
theorem zMQ:∀f:Nat,(∀ {d e b c a r},aB f d e b c a=some r->(∀j,dL 0 (pt 16309 f344) (sp j 39 0 [(4,.mp 0 0),(6,.mp 1 0),(17,zH yI d .no),(18,ai (d.length:Int)),(19,ai e)]) (⟨[(0,.cells [ai 0,ai 0,.ms 2 0 (List.length ([]:zW)) (List.length ([]:zW)) 3]),(1,.cells [ai b,ai c,zH zC a .no]),(2,.row (zF zC ([]:zW)))],3,[],0,[]⟩) (fQ 0 (nQ 0 f344 (.tup [xF r.1,ai r.2]) [] 0) [.blk 0,.seq (pt 255 f344)]))):=by
 intro f
 induction f with
 |zero=>
  exact fun h=>nn h
 |succ f ih=>
  intro d e b c a r h
  rw[aB]at h
  obtain⟨h6,h⟩|⟨h6,h⟩:=xA h
  obtain⟨x7,h8,h⟩:=zD h
  obtain⟨r9,h10,h⟩:=zD h
  have k:=oC 5 [] (zVs h10)<|oA 0 (zSM (o:=.no) h8)<|oB 0 h6 o0
  obtain⟨h11,h⟩:=zT h
  exact fun j=>lH 3 [] [0,1,2] [] [4,6,17,18,19] (oD (yB d)<|oD (dT ([]:zW))<|oD (dT r9.1.sub)<|oB 3 h11 k) (ih h)
  cases h
  exact fun j=>lF 2 [] (oD (dT a)<|oB 0 h6 o0)
theorem zQW{f d g r}(h:zMP f d g=some r):Ct 344 [] [zH yI d .no,xF g] (.tup [xF r.1,ai r.2]) [] 0:=⟨by
 unfold zMP at h
 obtain⟨r1,h2,h⟩:=zD h
 obtain⟨h3,h⟩:=xD h
 obtain⟨r4,h5,h⟩:=zD h
 exact tH ⟨func344,rfl⟩ 2 [(some 1,2,4099)] [1,2,3] [] [4,6,17,18,19] (oD (yB d)<|oD (dT ([]:zW))<|oD (dT r4.sub)<|oC 2 [] (c92 h5)<|oK 1 [] h3 (jM h2) o0) (zMQ _ h),⟨⟨tv,yB _⟩,⟨tv,tv,⟨tv,dT _⟩,tv⟩,tv⟩,zB,⟨⟨tv,tv,dT _,tv⟩,tv,tv⟩,zB⟩
def s8(a:Nat)(c:zW)(d:Int):Option zW:=
 if decide (d≥0)then
 none
 else
 some c
def zQX(a:Nat)(b:Int):Option zW:=
 if decide (b<0)then
 none
 else
 if decide (b>1048576)then
 none
 else
 s8 a [] (xE (b-1))
theorem zMR{a c d r}(h:s8 a c d=some r):(∀j,dL 0 (pt 16309 f324) (sp j 23 0 [(3,zH zC c (.st 0 3)),(4,ai d)]) (⟨[],0,[0],1,[]⟩) (fQ 0 (nQ 0 f324 (.sl (zF zC r) r.length .no) [] 0) [.blk 0,.seq (pt 255 f324)])):=by
 unfold s8 at h
 obtain⟨h3,h⟩:=zT h
 obtain rfl:=sj h
 exact fun j=>lF 0 [] (oD (dT c)<|oB 0 h3 o0)
theorem zYw{a b r}(h:zQX a b=some r):Ct 324 [] [ai b] (.sl (zF zC r) r.length .no) [] 0:=⟨by
 unfold zQX at h
 obtain⟨h1,h⟩:=zT h
 have k:=oB 0 h1 o0
 obtain⟨h2,h⟩:=zT h
 exact tH ⟨func324,rfl⟩ 1 [(none,3,3)] [] [0] [3,4] (oD (dT ([]:zW))<|oB 0 h2 k) (zMR h),⟨tv,tv⟩,zB,dT _,zB⟩
def s9(e:Nat)(a:zW)(c d b:Int)(f:zW):Option (zW×Int):=
 if decide (b<(a.length:Int))then
 none
 else
 some (f,0)
def zQY(e:Nat)(a:zW)(c d:Int):Option (zW×Int):=
 s9 e a c d 0 []
theorem zMS{e a c d b f r}(h:s9 e a c d b f=some r):(∀j,dL 0 (pt 4021 f363) (sp j 35 0 [(1,ai c),(2,ai d),(8,zH zC f (.st 0 3)),(13,zH zC a .no),(14,ai (a.length:Int)),(15,ai b)]) (⟨[],0,[0],1,[]⟩) (fQ 0 (nQ 0 f363 (.tup [.sl (zF zC r.1) r.1.length .no,ai r.2]) [] 0) [.blk 0,.seq (pt 63 f363)])):=by
 unfold s9 at h
 obtain⟨h1,h⟩:=zT h
 cases h
 exact fun j=>lF 0 [] (oD (dT f)<|oB 0 h1 o0)
theorem zYv{e a c d r}(h:zQY e a c d=some r):Ct 363 [] [zH zC a .no,ai c,ai d] (.tup [.sl (zF zC r.1) r.1.length .no,ai r.2]) [] 0:=⟨by
 unfold zQY at h
 exact tH ⟨func363,rfl⟩ 1 [(none,8,3)] [] [0] [1,2,8,13,14,15] (oD (dT a)<|oD (dT ([]:zW)) o0) (zMS h),⟨⟨tv,dT _⟩,tv,tv,tv⟩,zB,⟨dT _,tv,tv⟩,zB⟩
def J2(a:Nat)(c:Int)(d:Tm)(b:zW):Option (Tm×Int):=
 zGw a b>>=fun r1=>
 match r1 with
 | .inl y3=>
  zQY a [] c 0>>=fun r4=>
  if r4.2 != 0 then
  none
  else
  zQX a c>>=fun r7=>
  zGw a r7>>=fun r9=>
  match r9 with
  | .inl y11=>
   yV 40 ([]:zW) r4.1>>=fun l12=>
   zFR a d l12>>=fun r15=>
   some (r15.1,r15.2)
  | .inr y17=>
   none
 | .inr y23=>
  none
theorem zBe:Qf 362 f362:=⟨func362,rfl⟩
theorem zJr{a c d b r}(h:J2 a c d b=some r):Ct 362 [.cells [zH zC b .no]] [ai c,xF d,.mp 0 0] (.tup [xF r.1,ai r.2]) [.cells [zH zC b .no]] 0:=⟨(by
 unfold J2 at h
 obtain⟨r1,h2,h⟩:=zD h
 rcases r1 with y3|y23
 dsimp only at h
 obtain⟨r4,h5,h⟩:=zD h
 have k:=oC 0 [] (zYv h5)<|oC 1 [] (zMa h2) o0
 obtain⟨h6,h⟩:=zT h
 obtain⟨r7,h8,h⟩:=zD h
 obtain⟨r9,h10,h⟩:=zD h
 have k:=oC 0 [] (zYw h8)<|oB 2 h6 k
 rcases r9 with y11|y17
 dsimp only at h
 obtain⟨l12,h13,h⟩:=zD h
 have k:=oC 0 [] (zMa h10) k
 by_cases h14:List.length r4.1=0
 obtain⟨r15,h16,h⟩:=zD h
 cases h
 exact tF zBe 3 [0] (oD (dT r15.1.sub)<|oD (dT b)<|oC 0 [] (zIC h16)<|oP 1 (zAd h13 h14) k)
 obtain⟨r15,h16,h⟩:=zD h
 cases h
 exact tF zBe 3 [0] (oD (dT r15.1.sub)<|oD (dT b)<|oC 0 [] (zIC h16)<|oP 1 (vO h13 h14) k)
 cases h
 cases h),⟨tv,⟨tv,tv,⟨tv,dT _⟩,tv⟩,(lz rfl),tv⟩,(zA ⟨⟨tv,dT _⟩,tv⟩ zB),⟨⟨tv,tv,dT _,tv⟩,tv,tv⟩,(zA ⟨dT _,tv⟩ zB)⟩
def qY:Nat->zW->zW->Int->zW->Option (zW×Int)
 |0,_,_,_,_=>none
 |d+1,c,b,a,e=>
 if decide (a<(c.length:Int))then
 yG c a>>=fun x2=>
 J2 d a x2 b>>=fun r4=>
 if r4.2 != 0 then
 none
 else
 yV 40 e [r4.1]>>=fun l7=>
 qY d c b (xE (a+1)) l7
 else
 some (e,0)
def J3(d:Nat)(c b:zW):Option (zW×Int):=
 qY d c b 0 []
theorem zBd:∀d:Nat,(∀ {c b a e r},qY d c b a e=some r->(∀j,dL 1 (pt 4021 f361) (sp j 34 0 [(1,.clo 362 [] [.mp 0 0]),(6,zH zC e (.st 0 3)),(11,zH zC c .no),(12,ai (c.length:Int)),(13,ai a)]) (⟨[(0,.cells [zH zC b .no])],1,[0],1,[]⟩) (fQ 1 (nQ 1 f361 (.tup [.sl (zF zC r.1) r.1.length .no,ai r.2]) [.cells [zH zC b .no]] 0) [.blk 0,.seq (pt 63 f361)]))):=by
 intro d
 induction d with
 |zero=>
  exact fun h=>nn h
 |succ d ih=>
  intro c b a e r h
  rw[qY]at h
  obtain⟨h1,h⟩|⟨h1,h⟩:=xA h
  obtain⟨x2,h3,h⟩:=zD h
  obtain⟨r4,h5,h⟩:=zD h
  have k:=oC 3 [0] (zJr h5)<|oA 0 (wN (o:=.no) h3)<|oB 0 h1 o0
  obtain⟨h6,h⟩:=zT h
  obtain⟨l7,h8,h⟩:=zD h
  exact fun j=>lH 1 [] [0] [1] [1,6,11,12,13] (oD (dT c)<|oD (dT l7)<|oD (dT b)<|oP 0 (vO h8 (by simp))<|oS 1 (xL xU [r4.1])<|oB 3 h6 k) (ih h)
  cases h
  exact fun j=>lF 0 [0] (oD (dT e)<|oD (dT b)<|oB 0 h1 o0)
theorem zJq{d c b r}(h:J3 d c b=some r):Ct 361 [.cells [zH zC b .no]] [zH zC c .no,.clo 362 [] [.mp 0 0]] (.tup [.sl (zF zC r.1) r.1.length .no,ai r.2]) [.cells [zH zC b .no]] 0:=⟨by
 unfold J3 at h
 exact tH ⟨func361,rfl⟩ 1 [(none,6,3)] [0] [0] [1,6,11,12,13] (oD (dT c)<|oD (dT ([]:zW))<|oD (dT b) o0) (zBd _ h),⟨⟨tv,dT _⟩,⟨tv,⟨(lz rfl),tv⟩⟩,tv⟩,(zA ⟨⟨tv,dT _⟩,tv⟩ zB),⟨dT _,tv,tv⟩,(zA ⟨dT _,tv⟩ zB)⟩
def zQZ(c:Nat)(a b:zW):Option (zW×Int):=
 J3 c a b>>=fun r1=>
 some (r1.1,r1.2)
theorem zYu{c a b r}(h:zQZ c a b=some r):Ct 274 [] [zH zC a .no,zH zC b .no] (.tup [.sl (zF zC r.1) r.1.length .no,ai r.2]) [] 0:=⟨by
 unfold zQZ at h
 obtain⟨r1,h2,h⟩:=zD h
 cases h
 exact tF ⟨func274,rfl⟩ 2 [] (oD (dT r1.1)<|oC 0 [0] (zJq h2) o0),⟨⟨tv,dT _⟩,⟨tv,dT _⟩,tv⟩,zB,⟨dT _,tv,tv⟩,zB⟩
def zRz(b:Nat)(a:yD)(c:Int):Option (nH × Int):=
 e66 b a>>=fun r1=>
 if r1 then
 zIm b a c 2>>=fun r4=>
 if r4 then
 zLb b a c>>=fun r7=>
 some (r7,0)
 else
 none
 else
 none
theorem zYt{b a c r}(h:zRz b a c=some r):Ct 280 [] [zH yE a .no,ai c] (.tup [zOl r.1,ai r.2]) [] 0:=⟨by
 unfold zRz at h
 obtain⟨r1,h2,h⟩:=zD h
 obtain⟨h3,h⟩:=xD h
 obtain⟨r4,h5,h⟩:=zD h
 have k:=oK 0 [] h3 (c66 h2) o0
 obtain⟨h6,h⟩:=xD h
 obtain⟨r7,h8,h⟩:=zD h
 cases h
 exact tF ⟨func280,rfl⟩ 1 [] (oD (dR r7.recs)<|oD (dT r7.inds)<|oD (dT r7.args)<|oC 1 [] (zTU h8)<|oK 1 [] h6 (zPV h5) k),⟨⟨tv,dE _⟩,tv,tv⟩,zB,⟨⟨dT _,dT _,dR _,tv⟩,tv,tv⟩,zB⟩
mutual
def aC:Nat->xN->Int->Int->Option Int
 |0,_,_,_=>none
 |c+1,b,a,e=>
 if decide (a<(b.length:Int))then
 yG b a>>=fun x2=>
 e62 c x2.type_>>=fun r4=>
 aD c b a r4 0 (X4 e (xE (x2.n_+1)))
 else
 some e
def aD:Nat->xN->Int->zU->Int->Int->Option Int
 |0,_,_,_,_,_=>none
 |c+1,b,a,r4,d,e=>
 if decide (d<(r4.length:Int))then
 yG r4 d>>=fun x7=>
 aD c b a r4 (xE (d+1)) (X4 e (xE (x7+1)))
 else
 aC c b (xE (a+1)) e
end
def zRy(c:Nat)(b:xN):Option Int:=
 aC c b 0 0
theorem J4:∀c:Nat,(∀ {b a e r},aC c b a e=some r->(∀j,dL 0 (pt 4021 f419) (sp j 34 0 [(3,ai e),(8,zH zJ b .no),(9,ai (b.length:Int)),(10,ai a)]) (⟨[],0,[],0,[]⟩) (fQ 0 (nQ 0 f419 (ai r) [] 0) [.blk 0,.seq (pt 63 f419)])))∧(∀ {b a r4 d e r},aD c b a r4 d e=some r->(∀j,dL 0 (pt 1054337013 f419) (sp j 34 0 [(3,ai e),(8,zH zJ b .no),(9,ai (b.length:Int)),(10,ai a),(21,zH zS r4 .no),(22,ai (r4.length:Int)),(23,ai d)]) (⟨[],0,[],0,[]⟩) (fQ 0 (nQ 0 f419 (ai r) [] 0) [.blk 2,.blk 1,.seq (pt 257407 f419),.loop (pt 4021 f419),.blk 0,.seq (pt 63 f419)]))):=by
 intro c
 induction c with
 |zero=>
  exact⟨fun h=>nn h,fun h=>nn h⟩
 |succ c ih=>
  obtain⟨zJp,zBc⟩:=ih
  refine⟨?_,?_⟩
  intro b a e r h
  rw[aC]at h
  obtain⟨h1,h⟩|⟨h1,h⟩:=xA h
  obtain⟨x2,h3,h⟩:=zD h
  obtain⟨r4,h5,h⟩:=zD h
  exact fun j=>lH 1 [] [] [] [3,8,9,10,21,22,23] (oD (dI r4)<|oD (zE b)<|oC 6 [] (c62 h5)<|oA 0 (gX (o:=.no) h3)<|oB 0 h1 o0) (zBc h)
  obtain rfl:=sj h
  exact fun j=>lF 0 [] (oB 0 h1 o0)
  intro b a r4 d e r h
  rw[aD]at h
  obtain⟨h6,h⟩|⟨h6,h⟩:=xA h
  obtain⟨x7,h8,h⟩:=zD h
  exact fun j=>lH 4 [] [] [] [3,8,9,10,21,22,23] (oD (dI r4)<|oD (zE b)<|oA 0 (sU (o:=.no) h8)<|oB 0 h6 o0) (zBc h)
  exact fun j=>lH 1 [] [] [] [3,8,9,10] (oD (zE b)<|oB 0 h6 o0) (zJp h)
theorem zYs{c b r}(h:zRy c b=some r):Ct 419 [] [zH zJ b .no] (ai r) [] 0:=⟨by
 unfold zRy at h
 exact tH ⟨func419,rfl⟩ 1 [] [] [] [3,8,9,10] (oD (zE b) o0) ((J4 _).1 h),⟨⟨tv,zE _⟩,tv⟩,zB,tv,zB⟩
def aE:Nat->xR->yD->xN->Int->Int->Int->zW->zW->(nH × Int)->(xN×Int)->zW->zW->Int->Option (xN×zW×Int)
 |0,_,_,_,_,_,_,_,_,_,_,_,_,_=>none
 |f+1,M,c,d,e,n,p,a,b,r1,r10,l17,g,m=>
 if decide (m<(r1.1.inds.length:Int))then
 yG r1.1.inds m>>=fun x21=>
 zBn f x21 l17>>=fun r23=>
 if r23.2 != 0 then
 none
 else
 yV 40 g [r23.1]>>=fun l26=>
 aE f M c d e n p a b r1 r10 l17 l26 (xE (m+1))
 else
 some (r10.1,g,0)
def zRx(f:Nat)(M:xR)(c:yD)(d:xN)(e n p:Int)(a b:zW)(q:Int):Option (xN×zW×Int):=
 zRz f c q>>=fun r1=>
 if r1.2 != 0 then
 none
 else
 zQZ f r1.1.args a>>=fun r4=>
 if r4.2 != 0 then
 none
 else
 zRy f d>>=fun r7=>
 if decide (r7>(xE (1048576-(r4.1.length:Int))))then
 none
 else
 e55 f r4.1 r7>>=fun r10=>
 if r10.2 != 0 then
 none
 else
 zLg f a>>=fun r13=>
 e58 f r10.1>>=fun r15=>
 yV 40 r13 r15>>=fun l17=>
 aE f M c d e n p a b r1 r10 l17 [] 0
theorem zVr:Qf 373 f373:=⟨func373,rfl⟩
theorem zEb:∀f:Nat,(∀ {M c d e n p a b r1 r10 l17 g m r},aE f M c d e n p a b r1 r10 l17 g m=some r->(∀j,dL 4 (pt 1073741749 f373) (sp j 93 0 [(11,zH zJ r10.1 (.st 0 4)),(12,zH zC g (.st 1 3)),(13,zH zC l17 (.st 2 3)),(71,zH zC r1.1.inds .no),(72,ai (r1.1.inds.length:Int)),(73,ai m)]) (⟨[(0,.cells [.mp 1 0,zH yE c .no,zH zJ d .no,ai e,.mp 3 0,zH zC a .no,zH zC b .no]),(1,mB M 2),(2,mR M),(3,.cells [ai n,ai p])],4,[0,1,2],3,[]⟩) (fQ 4 (nQ 4 f373 (.tup [.sl (zF zJ r.1) r.1.length .no,.sl (zF zC r.2.1) r.2.1.length .no,ai r.2.2]) [.cells [.mp 1 0,zH yE c .no,zH zJ d .no,ai e,.mp 3 0,zH zC a .no,zH zC b .no],mB M 2,mR M,.cells [ai n,ai p]] 0) [.blk 0,.seq (pt 16777215 f373)]))):=by
 intro f
 induction f with
 |zero=>
  exact fun h=>nn h
 |succ f ih=>
  intro M c d e n p a b r1 r10 l17 g m r h
  rw[aE]at h
  have z {os ob} (k:Oz os ob):=oD (zE r10.1)<|tB M<|oD (dT b)<|oD (dT a)<|oD (zE d)<|oD (dE c)<|k
  obtain⟨h20,h⟩|⟨h20,h⟩:=xA h
  obtain⟨x21,h22,h⟩:=zD h
  obtain⟨r23,h24,h⟩:=zD h
  have k:=oC 3 [] (R6 h24)<|oA 0 (wN (o:=.no) h22)<|oB 0 h20 o0
  obtain⟨h25,h⟩:=zT h
  obtain⟨l26,h27,h⟩:=zD h
  exact fun j=>lH 1 [] [0,1,2,3] [0,3,2] [11,12,13,71,72,73] (oD (dT r1.1.inds)<|oD (dT l17)<|oD (dT l26)<|z<|oP 0 (vO h27 (by simp))<|oS 1 (xL xU [r23.1])<|oB 3 h25 k) (ih h)
  cases h
  exact fun j=>lF 0 [0,1,2,3] (oD (dT g)<|z<|oB 0 h20 o0)
theorem zYr{f M c d e n p a b q r}(h:zRx f M c d e n p a b q=some r):Ct 373 [.cells [.mp 1 0,zH yE c .no,zH zJ d .no,ai e,.mp 3 0,zH zC a .no,zH zC b .no],mB M 2,mR M,.cells [ai n,ai p]] [.mp 0 0,ai q] (.tup [.sl (zF zJ r.1) r.1.length .no,.sl (zF zC r.2.1) r.2.1.length .no,ai r.2.2]) [.cells [.mp 1 0,zH yE c .no,zH zJ d .no,ai e,.mp 3 0,zH zC a .no,zH zC b .no],mB M 2,mR M,.cells [ai n,ai p]] 0:=⟨by
 unfold zRx at h
 have z {os ob} (k:Oz os ob):=tB M<|oD (dT b)<|oD (dT a)<|oD (zE d)<|oD (dE c)<|k
 obtain⟨r1,h2,h⟩:=zD h
 have k:=oC 1 [] (zYt h2) o0
 obtain⟨h3,h⟩:=zT h
 obtain⟨r4,h5,h⟩:=zD h
 have k:=oC 2 [] (zYu h5)<|oB 3 h3 k
 obtain⟨h6,h⟩:=zT h
 obtain⟨r7,h8,h⟩:=zD h
 have k:=oC 1 [] (zYs h8)<|oB 2 h6 k
 obtain⟨h9,h⟩:=zT h
 obtain⟨r10,h11,h⟩:=zD h
 have k:=oC 0 [] (c55 h11)<|oB 2 h9 k
 obtain⟨h12,h⟩:=zT h
 obtain⟨r13,h14,h⟩:=zD h
 obtain⟨r15,h16,h⟩:=zD h
 obtain⟨l17,h18,h⟩:=zD h
 have k:=oC 0 [] (c58 h16)<|oC 1 [] (zPJ h14)<|oB 2 h12 k
 by_cases h19:List.length r15=0
 exact tH zVr 2 [(none,12,3)] [0,1,2,3] [0,2,1] [11,12,13,71,72,73] (oD (dT r1.1.inds)<|oD (dT l17)<|oD (dT ([]:zW))<|oD (zE r10.1)<|z<|oP 0 (zAd h18 h19) k) (zEb _ h)
 exact tH zVr 2 [(none,12,3)] [0,1,2,3] [0,3,2] [11,12,13,71,72,73] (oD (dT r1.1.inds)<|oD (dT l17)<|oD (dT ([]:zW))<|oD (zE r10.1)<|z<|oP 0 (vO h18 h19) k) (zEb _ h),⟨(lz rfl),tv,tv⟩,(zA ⟨(lz rfl),⟨tv,dE _⟩,⟨tv,zE _⟩,tv,(lz rfl),⟨tv,dT _⟩,⟨tv,dT _⟩,tv⟩ (vY (lz rfl) (zA ⟨tv,tv,tv⟩ zB))),⟨zE _,dT _,tv,tv⟩,(zA ⟨(lz rfl),dE _,zE _,tv,(lz rfl),dT _,dT _,tv⟩ (vQ (lz rfl) (zA ⟨tv,tv,tv⟩ zB)))⟩
def zEa(qq:Nat)(p0:xN):Option Unit:=
 some ()
theorem zMT{qq p0 r}(h:zEa qq p0=some r):Ct 375 [] [zH zJ p0 .nl] (zH zJ ([]:xN) .full) [] 0:=⟨by
 unfold zEa at h
 cases h
 exact tG ⟨func375,rfl⟩ 1 [] [] [] true (oD (zE ([]:xN)) o0),⟨⟨tv,zE _⟩,tv⟩,zB,zE _,zB⟩
def q7(qq:Nat)(p0:xN):Option ((Unit) ⊕ xN):=
 if decide (List.length p0=0)then
 some (.inl ())
 else
 yV 48 ([]:xN) p0>>=fun l2=>
 some (.inr l2)
abbrev zGn (p0:xN) (C:Cf):Prop:=C 375 [] [zH zJ p0 .nn] (zH zJ ([]:xN) .full) [] 0
abbrev zGm (p0 r:xN) (C:Cf):Prop:=C 375 [] [zH zJ p0 .nn] (.ms 0 0 r.length r.length 4) [.row (zF zJ r)] 0
theorem zEA:Qf 375 f375:=⟨func375,rfl⟩
theorem zEB{qq p0 r}(h:q7 qq p0=some r):(match (generalizing:=false) r with | .inl x=>zGn p0 Ct | .inr x=>zGm p0 x Ct):=by
 unfold q7 at h
 obtain⟨h1,h⟩|⟨h1,h⟩:=xA h
 cases h
 exact⟨tG zEA 0 [] [] [] true (oD (zE ([]:xN))<|oQ 2 (zSa (of_decide_eq_true h1)) o0),⟨⟨tv,zE _⟩,tv⟩,zB,zE _,zB⟩
 obtain⟨l2,h3,h⟩:=zD h
 cases h
 exact⟨tF zEA 0 [0] (oD (zE l2)<|oM 2 (zSH h3 (of_decide_eq_false h1)) o0),⟨⟨tv,zE _⟩,tv⟩,zB,(lz rfl),(zA (zE _) zB)⟩
def q8(qq:Nat)(p0:xN):Option (Unit ⊕ xN):=if decide (List.length p0=0)=true then some (.inl ())else(yV 48 [] p0)>>=fun r=>some (.inr r)
theorem q9{qq:Nat}{p0:xN}{r:Unit ⊕ xN}(h:q8 qq p0=some r):(match (generalizing:=false) r with | .inl _=>CT prog 375 [] [.sl (zF zJ p0) p0.length .no] (.sl (zF zJ ([]:xN)) (List.length ([]:xN)) .full) [] 0 | .inr x=>CT prog 375 [] [.sl (zF zJ p0) p0.length .no] (.ms 0 0 x.length x.length 4) [.row (zF zJ x)] 0):=by
 unfold q8 at h
 obtain⟨h1,h⟩|⟨h1,h⟩:=xA h
 ·obtain rfl:=sj h
  have hp:p0=[]:=List.length_eq_zero_iff.1 (of_decide_eq_true h1)
  subst hp
  have k0:=zMT (qq:=qq) (p0:=[]) (r:=()) rfl
  have k1:=zEB (qq:=qq) (p0:=[]) (r:=.inl ()) rfl
  exact⟨wZ.nilcase (fun _=>k0.tri) k1.tri,⟨⟨trivial,zE _⟩,trivial⟩,(fun _ h=>nomatch h),zE _,(fun _ h=>nomatch h)⟩
 ·obtain⟨x,h2,h⟩:=zD h
  cases h
  have k1:=zEB (qq:=qq) (p0:=p0) (r:=.inr x) (by unfold q7;rw[if_neg (by rw[h1];decide),h2];rfl)
  refine⟨wZ.nilcase (fun hn=>?_) k1.tri,⟨⟨trivial,zE _⟩,trivial⟩,(fun _ h=>nomatch h),(show 0<1 by decide),zA (zE _) zB⟩
  have hp:p0=[]:=gN wH (by decide) hn
  subst hp
  cases h1
def zVq(_qq:Nat)(p0:xN):Option xN:=yV 48 [] p0
theorem zYq{qq:Nat}{p0:xN}{r:xN}(h:zVq qq p0=some r):CT prog 375 [] [.sl (zF zJ p0) p0.length .no] (.sl (zF zJ r) r.length (.st 0 4)) [] 1:=by
 have hr:r=p0:=by have:=(uB h).2;simpa using this
 subst hr
 by_cases h1:List.length r=0
 ·have hp:r=[]:=List.length_eq_zero_iff.1 h1
  subst hp
  exact CT.stampNil (q9 (qq:=qq) (p0:=[]) (r:=.inl ()) rfl)
 ·exact CT.freezeS (q9 (qq:=qq) (p0:=r) (r:=.inr r) (by unfold q8;rw[if_neg (by simpa using h1),show yV 48 ([]:xN) r=some r from h];rfl)) (zE _) (wQ wH.len _)
def J5(c:Nat)(b:wI)(a:zU):Option Bool:=
 zDo c a b.n_>>=fun r1=>
 some r1
theorem zJo{c b a r}(h:J5 c b a=some r):Ct 455 [.cells [zH zS a .no]] [zHe b,.mp 0 0] (ab r) [.cells [zH zS a .no]] 0:=⟨by
 unfold J5 at h
 obtain⟨r1,h2,h⟩:=zD h
 obtain rfl:=sj h
 exact tF ⟨func455,rfl⟩ 0 [0] (oD (dI a)<|oC 2 [] (zJx h2) o0),⟨⟨tv,tv,tv,⟨tv,dT _⟩,tv⟩,(lz rfl),tv⟩,(zA ⟨⟨tv,dI _⟩,tv⟩ zB),tv,(zA ⟨dI _,tv⟩ zB)⟩
def qZ:Nat->xN->Nat->Nat->zU->Int->Option Int
 |0,_,_,_,_,_=>none
 |g+1,d,f,m,e,p=>
 if decide (p<(f:Int))then
 uR f p>>=fun x2=>
 yG d (x2:Int)>>=fun x4=>
 J5 g x4 e>>=fun r6=>
 if r6 then
 none
 else
 qZ g d f m e (xE (p+1))
 else
 some (-1)
def J6(g:Nat)(d:xN)(f m:Nat)(e:zU):Option Int:=
 qZ g d f m e 0
theorem zBb:∀g:Nat,(∀ {d f m e p r},qZ g d f m e p=some r->(∀j,dL 2 (pt 949 f461) (sp j 19 0 [(0,.ms 0 0 f m 4),(1,.clo 455 [] [.mp 1 0]),(7,ai (f:Int)),(8,ai p)]) (⟨[(0,.row (zF zJ d)),(1,.cells [zH zS e .no])],2,[],0,[]⟩) (fQ 2 (nQ 2 f461 (ai r) [.row (zF zJ d),.cells [zH zS e .no]] 0) [.blk 0,.seq (pt 15 f461)]))):=by
 intro g
 induction g with
 |zero=>
  exact fun h=>nn h
 |succ g ih=>
  intro d f m e p r h
  rw[qZ]at h
  obtain⟨h1,h⟩|⟨h1,h⟩:=xA h
  obtain⟨x2,h3,h⟩:=zD h
  obtain⟨x4,h5,h⟩:=zD h
  obtain⟨r6,h7,h⟩:=zD h
  have k:=oG (a:=(.agg [ai x4.n_,ai x4.type_.k,ai x4.type_.n,zH zC x4.type_.sub .no])) 0 (U1 wH h5 (true,4) (val:=.agg [ai x4.n_,ai x4.type_.k,ai x4.type_.n,zH zC x4.type_.sub .no]) rfl)<|oA 0 (zEr (b:=0) (c:=m) (z:=4) h3)<|oB 0 h1 o0
  obtain⟨h8,h⟩:=zT h
  exact fun j=>lH 1 [] [0,1] [] [0,1,7,8] (oD (dI e)<|oD (zE d)<|oK 0 [1] h8 (zJo h7) k) (ih h)
  cases h
  exact fun j=>lF 0 [0,1] (oD (dI e)<|oD (zE d)<|oB 0 h1 o0)
theorem zJn{g d f m e r}(h:J6 g d f m e=some r):Ct 461 [.row (zF zJ d),.cells [zH zS e .no]] [.ms 0 0 f m 4,.clo 455 [] [.mp 1 0]] (ai r) [.row (zF zJ d),.cells [zH zS e .no]] 0:=⟨by
 unfold J6 at h
 exact tH ⟨func461,rfl⟩ 1 [] [0,1] [] [0,1,7,8] (oD (dI e)<|oD (zE d) o0) (zBb _ h),⟨(lz rfl),⟨tv,⟨(lz rfl),tv⟩⟩,tv⟩,(zA (zE _) (zA ⟨⟨tv,dI _⟩,tv⟩ zB)),tv,(zA (zE _) (zA ⟨dI _,tv⟩ zB))⟩
def J7(e:Nat)(a:xN)(c d:Nat)(b:zU):Option Bool:=
 J6 e a c d b>>=fun r1=>
 some (decide (r1≥0))
theorem zJm{e a c d b r}(h:J7 e a c d b=some r):Ct 454 [.row (zF zJ a),.cells [zH zS b .no]] [.ms 0 0 c d 4,.clo 455 [] [.mp 1 0]] (ab r) [.row (zF zJ a),.cells [zH zS b .no]] 0:=⟨by
 unfold J7 at h
 obtain⟨r1,h2,h⟩:=zD h
 cases h
 exact tF ⟨func454,rfl⟩ 1 [0,1] (oD (dI b)<|oD (zE a)<|oC 0 [0,1] (zJn h2) o0),⟨(lz rfl),⟨tv,⟨(lz rfl),tv⟩⟩,tv⟩,(zA (zE _) (zA ⟨⟨tv,dI _⟩,tv⟩ zB)),tv,(zA (zE _) (zA ⟨dI _,tv⟩ zB))⟩
def kG(g:Nat)(d:xN)(e f:Nat)(m:Int):Option Int:=
 if decide (m<(e:Int))then
 uR e m>>=fun x2=>
 yG d (x2:Int)>>=fun x4=>
 e62 g x4.type_>>=fun r6=>
 J7 g d e f r6>>=fun r8=>
 if r8 then
 none
 else
 some m
 else
 none
def J8(g:Nat)(d:xN)(e f:Nat):Option Int:=
 kG g d e f 0
theorem zBa{g d e f m r}(h:kG g d e f m=some r):(∀j,dL 1 (pt 949 f443) (sp j 24 0 [(0,.ms 0 0 e f 4),(7,.ms 0 0 e f 4),(8,ai (e:Int)),(9,ai m)]) (⟨[(0,.row (zF zJ d))],1,[],0,[]⟩) (fQ 1 (nQ 1 f443 (ai r) [.row (zF zJ d)] 0) [.blk 0,.seq (pt 15 f443)])):=by
 unfold kG at h
 obtain⟨h1,h⟩:=xD h
 obtain⟨x2,h3,h⟩:=zD h
 obtain⟨x4,h5,h⟩:=zD h
 obtain⟨r6,h7,h⟩:=zD h
 obtain⟨r8,h9,h⟩:=zD h
 have k:=oC 2 [] (c62 h7)<|oG (a:=(.agg [ai x4.n_,ai x4.type_.k,ai x4.type_.n,zH zC x4.type_.sub .no])) 0 (U1 wH h5 (true,4) (val:=.agg [ai x4.n_,ai x4.type_.k,ai x4.type_.n,zH zC x4.type_.sub .no]) rfl)<|oA 0 (zEr (b:=0) (c:=f) (z:=4) h3)<|oB 0 h1 o0
 obtain⟨h10,h⟩:=zT h
 obtain rfl:=sj h
 exact fun j=>lF 1 [0] (oD (zE d)<|oK 1 [0,2] h10 (zJm h9) k)
theorem zJl{g d e f r}(h:J8 g d e f=some r):Ct 443 [.row (zF zJ d)] [.ms 0 0 e f 4] (ai r) [.row (zF zJ d)] 0:=⟨by
 unfold J8 at h
 exact tH ⟨func443,rfl⟩ 1 [] [0] [] [0,7,8,9] (oD (zE d) o0) (zBa h),⟨(lz rfl),tv⟩,(zA (zE _) zB),tv,(zA (zE _) zB)⟩
def J9(m:Nat)(g:xN)(d a:Nat)(e f:Int):Option (xN×Nat×Nat):=
 nN d e f>>=fun x1=>
 if e==f then
 none
 else
 nN a 0 e>>=fun x4=>
 nN d f (d:Int)>>=fun x6=>
 zAn g (0+x6.1) x6.2>>=fun m8=>
 zHn a x4.2 g m8>>=fun l10=>
 nN a ((x4.2+x6.2):Int) (d:Int)>>=fun x12=>
 gle l10.length (0+x12.1)>>=fun x14=>
 some (l10,(x4.2+x6.2),a)
theorem zJk{m g d a e f r}(h:J9 m g d a e f=some r):Ct 444 [.row (zF zJ g)] [.ms 0 0 d a 4,ai e,ai f] (.ms 0 0 r.2.1 r.2.2 4) [.row (zF zJ r.1)] 0:=⟨by
 unfold J9 at h
 obtain⟨x1,h2,h⟩:=zD h
 have k:=oA 1 (zKF (b:=0) (o:=0) (c:=a) h2) o0
 obtain⟨h3,h⟩:=zT h
 obtain⟨x4,h5,h⟩:=zD h
 obtain⟨x6,h7,h⟩:=zD h
 obtain⟨m8,h9,h⟩:=zD h
 obtain⟨l10,h11,h⟩:=zD h
 obtain⟨x12,h13,h⟩:=zD h
 obtain⟨x14,h15,h⟩:=zD h
 cases h
 exact tF ⟨func444,rfl⟩ 0 [0] (oD (zE l10)<|oR 0 (zSI h15)<|oA 1 (zSR (b:=0) (o:=0) (n:=(x4.2+x6.2)) h13)<|oI 0 (zOe h9 h11)<|oA 0 (zFa (b:=0) (o:=0) (c:=a) h7)<|oA 1 (zKH (b:=0) (off:=0) (n:=d) h5)<|oB 0 h3 k),⟨(lz rfl),tv,tv,tv⟩,(zA (zE _) zB),(lz rfl),(zA (zE _) zB)⟩
def fK:Nat->xN->Nat->Nat->xN->Option (xN×Int)
 |0,_,_,_,_=>none
 |e+1,f,v7_c,v7_n,d=>
 if decide ((v7_n:Int)>0)then
 J8 e d v7_n v7_c>>=fun r8=>
 if decide (r8<0)then
 none
 else
 uR v7_n r8>>=fun x11=>
 yG d (x11:Int)>>=fun x13=>
 e92 e x13.type_>>=fun r15=>
 yV 48 f [(wI.mk x13.n_ r15)]>>=fun l17=>
 J9 e d v7_n v7_c r8 (xE (r8+1))>>=fun r19=>
 fK e l17 r19.2.2 r19.2.1 r19.1
 else
 some (f,0)
def zRw(e:Nat)(g:xN):Option (xN×Int):=
 zME e g>>=fun r1=>
 if (r1.length:Int) != (g.length:Int)then
 none
 else
 q8 e g>>=fun r4=>
 match r4 with
 | .inl y6=>
  fK e [] (List.length ([]:xN)) (List.length ([]:xN)) ([]:xN)
 | .inr y7=>
  fK e [] y7.length y7.length y7
theorem zVp:Qf 420 f420:=⟨func420,rfl⟩
theorem zEC:∀e:Nat,(∀ {f v7_c v7_n d r},fK e f v7_c v7_n d=some r->(∀j,dL 0 (pt 262069 f420) (sp j 51 0 [(6,zH zJ f (.st 0 4)),(7,.ms 0 0 v7_n v7_c 4)]) (⟨[(0,.row (zF zJ d))],1,[0],1,[]⟩) (fQ 0 (nQ 0 f420 (.tup [.sl (zF zJ r.1) r.1.length .no,ai r.2]) [] 0) [.blk 0,.seq (pt 4095 f420)]))):=by
 intro e
 induction e with
 |zero=>
  exact fun h=>nn h
 |succ e ih=>
  intro f v7_c v7_n d r h
  rw[fK]at h
  obtain⟨h7,h⟩|⟨h7,h⟩:=xA h
  obtain⟨r8,h9,h⟩:=zD h
  have k:=oC 0 [0] (zJl h9)<|oB 1 h7 o0
  obtain⟨h10,h⟩:=zT h
  obtain⟨x11,h12,h⟩:=zD h
  obtain⟨x13,h14,h⟩:=zD h
  obtain⟨r15,h16,h⟩:=zD h
  obtain⟨l17,h18,h⟩:=zD h
  obtain⟨r19,h20,h⟩:=zD h
  exact fun j=>lH 0 [] [0] [1] [6,7] (oD (zE l17)<|oD (zE r19.1)<|oC 1 [0] (zJk h20)<|oP 1 (zAb h18 (by simp))<|oC 0 [] (c92 h16)<|oG (a:=(.agg [ai x13.type_.k,ai x13.type_.n,zH zC x13.type_.sub .no])) 0 (ldF wH h14 1 (true,3) (val:=.agg [ai x13.type_.k,ai x13.type_.n,zH zC x13.type_.sub .no]) rfl)<|oA 0 (zEr (b:=0) (c:=v7_c) (z:=4) h12)<|oG (a:=(ai x13.n_)) 0 (U1 wH h14 (false,1) (val:=ai x13.n_) rfl)<|oA 0 (zEr (b:=0) (c:=v7_c) (z:=4) h12)<|oB 0 h10 k) (ih h)
  cases h
  exact fun j=>lF 0 [] (oD (zE f)<|oB 1 h7 o0)
theorem zYp{e g r}(h:zRw e g=some r):Ct 420 [] [zH zJ g .no] (.tup [.sl (zF zJ r.1) r.1.length .no,ai r.2]) [] 0:=⟨by
 unfold zRw at h
 obtain⟨r1,h2,h⟩:=zD h
 have k:=oN 3 (zHP r1)<|oC 0 [] (zVx h2) o0
 obtain⟨h3,h⟩:=zT h
 obtain⟨r4,h5,h⟩:=zD h
 have k:=oB 1 h3 k
 rcases r4 with y6|y7
 dsimp only at h
 exact tH zVp 0 [(none,7,4100),(none,6,4)] [1] [0] [6,7] (oD (zE ([]:xN))<|oD (zE ([]:xN))<|oC 0 [] (q9 h5) k) (zEC _ h)
 dsimp only at h
 exact tH zVp 0 [(none,6,4)] [1] [0] [6,7] (oD (zE ([]:xN))<|oD (zE y7)<|oC 0 [] (q9 h5) k) (zEC _ h),⟨⟨tv,zE _⟩,tv⟩,zB,⟨zE _,tv,tv⟩,zB⟩
def fL:Nat->xN->Int->Tm->Int->xN->Option (xN×Int)
 |0,_,_,_,_,_=>none
 |a+1,c,e,b,d,f=>
 if decide (d<(c.length:Int))then
 yG c d>>=fun x21=>
 if x21.n_==e then
 fL a c e b (xE (d+1)) f
 else
 zMO a x21.type_ b e>>=fun r24=>
 if r24.2 != 0 then
 none
 else
 yV 48 f [(wI.mk x21.n_ r24.1)]>>=fun l27=>
 fL a c e b (xE (d+1)) l27
 else
 zRw a f>>=fun r29=>
 some (r29.1,r29.2)
def zRv(a:Nat)(c:xN)(e:Int)(b:Tm):Option (xN×Int):=
 e97 a c>>=fun r1=>
 if r1 then
 jX a b>>=fun r4=>
 if r4 then
 e61 a b>>=fun r7=>
 if decide (r7>0)then
 none
 else
 zGo a c>>=fun r10=>
 zDo a r10 e>>=fun r12=>
 if r12 then
 e62 a b>>=fun r15=>
 zDo a r15 e>>=fun r17=>
 if r17 then
 none
 else
 fL a c e b 0 []
 else
 none
 else
 none
 else
 none
theorem zMU:∀a:Nat,(∀ {c e b d f r},fL a c e b d f=some r->(∀j,dL 0 (pt 262069 f374) (sp j 68 0 [(1,ai e),(5,.mp 0 0),(8,zH zJ f (.st 0 4)),(35,zH zJ c .no),(36,ai (c.length:Int)),(37,ai d)]) (⟨[(0,.cells [ai b.k,ai b.n,zH zC b.sub .no])],1,[0],1,[]⟩) (fQ 0 (nQ 0 f374 (.tup [.sl (zF zJ r.1) r.1.length .no,ai r.2]) [] 0) [.blk 0,.seq (pt 4095 f374)]))):=by
 intro a
 induction a with
 |zero=>
  exact fun h=>nn h
 |succ a ih=>
  intro c e b d f r h
  rw[fL]at h
  obtain⟨h20,h⟩|⟨h20,h⟩:=xA h
  obtain⟨x21,h22,h⟩:=zD h
  have k:=oA 0 (gX (o:=.no) h22)<|oB 0 h20 o0
  obtain⟨h23,h⟩|⟨h23,h⟩:=xA h
  exact fun j=>lH 1 [] [0] [0] [1,5,8,35,36,37] (oD (zE c)<|oD (zE f)<|oD (dT b.sub)<|oB 3 h23 k) (ih h)
  obtain⟨r24,h25,h⟩:=zD h
  have k:=oC 2 [] (zVs h25)<|oB 3 h23 k
  obtain⟨h26,h⟩:=zT h
  obtain⟨l27,h28,h⟩:=zD h
  exact fun j=>lH 1 [] [0] [1] [1,5,8,35,36,37] (oD (zE c)<|oD (zE l27)<|oD (dT b.sub)<|oP 3 (zAb h28 (by simp))<|oB 3 h26 k) (ih h)
  obtain⟨r29,h30,h⟩:=zD h
  cases h
  exact fun j=>lF 2 [] (oD (zE r29.1)<|oC 0 [] (zYp h30)<|oB 0 h20 o0)
theorem zVo{a c e b r}(h:zRv a c e b=some r):Ct 374 [] [zH zJ c .no,ai e,xF b] (.tup [.sl (zF zJ r.1) r.1.length .no,ai r.2]) [] 0:=⟨by
 unfold zRv at h
 obtain⟨r1,h2,h⟩:=zD h
 obtain⟨h3,h⟩:=xD h
 obtain⟨r4,h5,h⟩:=zD h
 have k:=oK 0 [] h3 (c97 h2) o0
 obtain⟨h6,h⟩:=xD h
 obtain⟨r7,h8,h⟩:=zD h
 have k:=oC 2 [] (c61 h8)<|oK 2 [] h6 (jM h5) k
 obtain⟨h9,h⟩:=zT h
 obtain⟨r10,h11,h⟩:=zD h
 obtain⟨r12,h13,h⟩:=zD h
 have k:=oC 0 [] (zBh h11)<|oB 0 h9 k
 obtain⟨h14,h⟩:=xD h
 obtain⟨r15,h16,h⟩:=zD h
 obtain⟨r17,h18,h⟩:=zD h
 have k:=oC 2 [] (c62 h16)<|oK 0 [] h14 (zJx h13) k
 obtain⟨h19,h⟩:=zT h
 exact tH ⟨func374,rfl⟩ 1 [(none,8,4)] [0] [1] [1,5,8,35,36,37] (oD (zE c)<|oD (zE ([]:xN))<|oD (dT b.sub)<|oK 0 [] h19 (zJx h18) k) (zMU _ h),⟨⟨tv,zE _⟩,tv,⟨tv,tv,⟨tv,dT _⟩,tv⟩,tv⟩,zB,⟨zE _,tv,tv⟩,zB⟩
def zJj(a:Nat)(M:xR)(b:Tm):Option Bool:=
 cG a M>>=fun r1=>
 iP a b 0 r1>>=fun r3=>
 some r3
theorem zRu{a M b r}(h:zJj a M b=some r):Ct 445 [mB M 1,mR M] [.mp 0 0,xF b] (ab r) [mB M 1,mR M] 0:=⟨by
 unfold zJj at h
 obtain⟨r1,h2,h⟩:=zD h
 obtain⟨r3,h4,h⟩:=zD h
 obtain rfl:=sj h
 exact tF ⟨func445,rfl⟩ 0 [0,1] (tB M<|oC 0 [] (eU h4)<|oC 1 [0,1] (R5 h2) o0),⟨(lz rfl),⟨tv,tv,⟨tv,dT _⟩,tv⟩,tv⟩,(vY (lz rfl) zB),tv,(vQ (lz rfl) zB)⟩
def aF:Nat->xR->xN->zW->zW->Int->Int->Int->j0->Option (xN×j0×xN×qD×zU×Int)
 |0,_,_,_,_,_,_,_,_=>none
 |e+1,M,b,c,d,f,g,m,a=>
 if decide (m<(c.length:Int))then
 yG c m>>=fun x12=>
 zJj e M x12>>=fun r14=>
 if r14 then
 yG d m>>=fun x17=>
 zJj e M x17>>=fun r19=>
 if r19 then
 yV 80 a [(wV.mk x12 x17)]>>=fun l22=>
 aF e M b c d f g (xE (m+1)) l22
 else
 none
 else
 none
 else
 some (b,a,([]:xN),([]:qD),([]:zU),0)
def aG:Nat->xR->xN->zW->zW->Int->Int->Int->Option (xN×j0×xN×qD×zU×Int)
 |0,_,_,_,_,_,_,_=>none
 |e+1,M,b,c,d,f,g,n=>
 if decide (n<(b.length:Int))then
 yG b n>>=fun x6=>
 zJj e M x6.type_>>=fun r8=>
 if r8 then
 aG e M b c d f g (xE (n+1))
 else
 none
 else
 aF e M b c d f g 0 ([]:j0)
def zRt(e:Nat)(M:xR)(b:xN)(c d:zW)(f g:Int):Option (xN×j0×xN×qD×zU×Int):=
 e97 e b>>=fun r1=>
 if r1 then
 if (c.length:Int) != (d.length:Int)then
 none
 else
 aG e M b c d f g 0
 else
 none
theorem zMV:∀e:Nat,(∀ {M b c d f g m a r},aF e M b c d f g m a=some r->(∀j,dL 3 (pt 65461 f421) (sp j 88 0 [(0,.mp 0 0),(2,zH zC c .no),(3,zH zC d .no),(14,.mp 3 0),(48,ai (c.length:Int)),(49,ai m)]) (⟨[(0,mB M 1),(1,mR M),(2,.cells [ai f,ai g]),(3,.cells [.mp 0 0,.mp 2 0,zH zJ b .no,.ms 4 0 a.length a.length 6,ab false,.ms 5 0 (List.length ([]:xN)) (List.length ([]:xN)) 4,.ms 6 0 (List.length ([]:qD)) (List.length ([]:qD)) 4,.ms 7 0 (List.length ([]:zU)) (List.length ([]:zU)) 1,ab false,ai 0]),(4,.row (zF yZ a)),(5,.row (zF zJ ([]:xN))),(6,.row (zF yI ([]:qD))),(7,.row (zF zS ([]:zU)))],8,[],0,[]⟩) (fQ 3 (nQ 3 f421 (.tup [.mp 3 0,ab true]) [mB M 1,mR M,.cells [ai f,ai g],.cells [.mp 0 0,.mp 2 0,zH zJ r.1 .no,.ms 4 0 r.2.1.length r.2.1.length 6,ab false,.ms 5 0 r.2.2.1.length r.2.2.1.length 4,.ms 6 0 r.2.2.2.1.length r.2.2.2.1.length 4,.ms 7 0 r.2.2.2.2.1.length r.2.2.2.2.1.length 1,ab false,ai r.2.2.2.2.2],.row (zF yZ r.2.1),.row (zF zJ r.2.2.1),.row (zF yI r.2.2.2.1),.row (zF zS r.2.2.2.2.1)] 0) [.blk 2,.seq (pt 1023 f421)]))):=by
 intro e
 induction e with
 |zero=>
  exact fun h=>nn h
 |succ e ih=>
  intro M b c d f g m a r h
  rw[aF]at h
  obtain⟨h11,h⟩|⟨h11,h⟩:=xA h
  obtain⟨x12,h13,h⟩:=zD h
  obtain⟨r14,h15,h⟩:=zD h
  have k:=oA 0 (wN (o:=.no) h13)<|oB 0 h11 o0
  obtain⟨h16,h⟩:=xD h
  obtain⟨x17,h18,h⟩:=zD h
  obtain⟨r19,h20,h⟩:=zD h
  have k:=oA 1 (wN (o:=.no) h18)<|oK 1 [0,1] h16 (zRu h15) k
  obtain⟨h21,h⟩:=xD h
  obtain⟨l22,h23,h⟩:=zD h
  exact fun j=>lH 2 [] [0,1,2,3,8,5,6,7] [] [0,2,3,14,48,49] (oD (dT d)<|oD (dT c)<|oD (dI ([]:zU))<|oD (yB ([]:qD))<|oD (zE ([]:xN))<|oD (yU l22)<|oD (zE b)<|tB M<|oM 2 (zOA h23 (by simp))<|oA 1 (wN (o:=.no) h18)<|oA 2 (wN (o:=.no) h13)<|oK 1 [0,1] h21 (zRu h20) k) (ih h)
  cases h
  exact fun j=>lF 0 [0,1,2,3,4,5,6,7] (oD (dI ([]:zU))<|oD (yB ([]:qD))<|oD (zE ([]:xN))<|oD (yU a)<|oD (zE b)<|tB M<|oB 0 h11 o0)
theorem zMW:∀e:Nat,(∀ {M b c d f g n r},aG e M b c d f g n=some r->(∀j,dL 3 (pt 4021 f421) (sp j 88 0 [(0,.mp 0 0),(1,zH zJ b .no),(2,zH zC c .no),(3,zH zC d .no),(4,.mp 2 0),(30,zH zJ b .no),(31,ai (b.length:Int)),(32,ai n)]) (⟨[(0,mB M 1),(1,mR M),(2,.cells [ai f,ai g])],3,[],0,[]⟩) (fQ 3 (nQ 3 f421 (.tup [.mp 3 0,ab true]) [mB M 1,mR M,.cells [ai f,ai g],.cells [.mp 0 0,.mp 2 0,zH zJ r.1 .no,.ms 4 0 r.2.1.length r.2.1.length 6,ab false,.ms 5 0 r.2.2.1.length r.2.2.1.length 4,.ms 6 0 r.2.2.2.1.length r.2.2.2.1.length 4,.ms 7 0 r.2.2.2.2.1.length r.2.2.2.2.1.length 1,ab false,ai r.2.2.2.2.2],.row (zF yZ r.2.1),.row (zF zJ r.2.2.1),.row (zF yI r.2.2.2.1),.row (zF zS r.2.2.2.2.1)] 0) [.blk 0,.seq (pt 63 f421)]))):=by
 intro e
 induction e with
 |zero=>
  exact fun h=>nn h
 |succ e ih=>
  intro M b c d f g n r h
  rw[aG]at h
  obtain⟨h5,h⟩|⟨h5,h⟩:=xA h
  obtain⟨x6,h7,h⟩:=zD h
  obtain⟨r8,h9,h⟩:=zD h
  have k:=oA 0 (gX (o:=.no) h7)<|oB 0 h5 o0
  obtain⟨h10,h⟩:=xD h
  exact fun j=>lH 2 [] [0,1,2] [] [0,1,2,3,4,30,31,32] (oD (zE b)<|oD (dT d)<|oD (dT c)<|oD (zE b)<|tB M<|oK 3 [0,1] h10 (zRu h9) k) (ih h)
  exact fun j=>lH 1 [(some 3,3,4102),(some 3,5,4100),(some 3,6,4100),(some 3,7,4097)] [0,1,2,3,4,5,6,7] [] [0,2,3,14,48,49] (oD (dT d)<|oD (dT c)<|oD (dI ([]:zU))<|oD (yB ([]:qD))<|oD (zE ([]:xN))<|oD (yU ([]:j0))<|oD (zE b)<|tB M<|oB 0 h5 o0) (zMV _ h)
theorem zVn{e M b c d f g r}(h:zRt e M b c d f g=some r):Ct 421 [mB M 1,mR M,.cells [ai f,ai g]] [.mp 0 0,zH zJ b .no,zH zC c .no,zH zC d .no,.mp 2 0] (.tup [.mp 3 0,ab true]) [mB M 1,mR M,.cells [ai f,ai g],.cells [.mp 0 0,.mp 2 0,zH zJ r.1 .no,.ms 4 0 r.2.1.length r.2.1.length 6,ab false,.ms 5 0 r.2.2.1.length r.2.2.1.length 4,.ms 6 0 r.2.2.2.1.length r.2.2.2.1.length 4,.ms 7 0 r.2.2.2.2.1.length r.2.2.2.2.1.length 1,ab false,ai r.2.2.2.2.2],.row (zF yZ r.2.1),.row (zF zJ r.2.2.1),.row (zF yI r.2.2.2.1),.row (zF zS r.2.2.2.2.1)] 0:=⟨by
 unfold zRt at h
 obtain⟨r1,h2,h⟩:=zD h
 obtain⟨h3,h⟩:=xD h
 have k:=oK 1 [] h3 (c97 h2) o0
 obtain⟨h4,h⟩:=zT h
 exact tH ⟨func421,rfl⟩ 1 [] [0,1,2] [] [0,1,2,3,4,30,31,32] (oD (zE b)<|oD (dT d)<|oD (dT c)<|oD (zE b)<|tB M<|oB 3 h4 k) (zMW _ h),⟨(lz rfl),⟨tv,zE _⟩,⟨tv,dT _⟩,⟨tv,dT _⟩,(lz rfl),tv⟩,(vY (lz rfl) (zA ⟨tv,tv,tv⟩ zB)),⟨(lz rfl),tv,tv⟩,(vQ (lz rfl) (zA ⟨tv,tv,tv⟩ (zA ⟨(lz rfl),(lz rfl),zE _,(lz rfl),tv,(lz rfl),(lz rfl),(lz rfl),tv,tv,tv⟩ (zA (yU _) (zA (zE _) (zA (yB _) (zA (dI _) zB)))))))⟩
def fM(C:Nat)(q s:yD)(t:xS)(u v:zU)(i j:Int)(w:xN)(y:j0)(A d e:Nat)(f:Bool)(a:xN)(c:qD)(g m:Nat)(b:zU)(n:Bool)(p:Int)(z:Tm)(B:Int):Option (Tm×Int):=
 if p==0 then
 some (z,B)
 else
 none
theorem zBA{C q s t u v i j w y A d e f a c g m b n p z B r}(h:fM C q s t u v i j w y A d e f a c g m b n p z B=some r):Ct 446 [.cells [.mp 1 0,.mp 3 0,zH zJ w .no,.ms 4 (d*6) A e 6,ab f,.ms 5 0 a.length a.length 4,.ms 6 0 g m 4,.ms 7 0 b.length b.length 1,ab n,ai p],qB q 2 u v,qR s t,.cells [ai i,ai j],.row (zF yZ y),.row (zF zJ a),.row (zF yI c),.row (zF zS b)] [.mp 0 0,xF z,ai B] (xF r.1) [.cells [.mp 1 0,.mp 3 0,zH zJ w .no,.ms 4 (d*6) A e 6,ab f,.ms 5 0 a.length a.length 4,.ms 6 0 g m 4,.ms 7 0 b.length b.length 1,ab n,ai r.2],qB q 2 u v,qR s t,.cells [ai i,ai j],.row (zF yZ y),.row (zF zJ a),.row (zF yI c),.row (zF zS b)] 0:=⟨by
 unfold fM at h
 obtain⟨h1,h⟩:=xD h
 cases h
 exact tF ⟨func446,rfl⟩ 3 [0,1,2,3,4,5,6,7] (oD (dT z.sub)<|oD (dI b)<|oD (yB c)<|oD (zE a)<|oD (yU y)<|wS q s t u v<|oD (zE w)<|oB 1 h1 o0),⟨(lz rfl),⟨tv,tv,⟨tv,dT _⟩,tv⟩,tv,tv⟩,(zA ⟨(lz rfl),(lz rfl),⟨tv,zE _⟩,(lz rfl),tv,(lz rfl),(lz rfl),(lz rfl),tv,tv,tv⟩ (vY (lz rfl) (zA ⟨tv,tv,tv⟩ (zA (yU _) (zA (zE _) (zA (yB _) (zA (dI _) zB))))))),⟨tv,tv,dT _,tv⟩,(zA ⟨(lz rfl),(lz rfl),zE _,(lz rfl),tv,(lz rfl),(lz rfl),(lz rfl),tv,tv,tv⟩ (vQ (lz rfl) (zA ⟨tv,tv,tv⟩ (zA (yU _) (zA (zE _) (zA (yB _) (zA (dI _) zB)))))))⟩
def fN(D:Nat)(u v:yD)(w:xS)(y i:zU)(A B:Int)(s:xN)(j:j0)(C d e:Nat)(f:Bool)(a:xN)(c:qD)(g m:Nat)(b:zU)(p:Bool)(q:Int)(t:Tm):Option Int:=
 if t.k != 8 then
 some (-1)
 else
 zMI D s t.n>>=fun r2=>
 if r2.2 != 0 then
 none
 else
 some t.n
theorem zBB:Qf 447 f447:=⟨func447,rfl⟩
theorem zBC{D u v w y i A B s j C d e f a c g m b p q t r}(h:fN D u v w y i A B s j C d e f a c g m b p q t=some r):Ct 447 [.cells [.mp 1 0,.mp 3 0,zH zJ s .no,.ms 4 (d*6) C e 6,ab f,.ms 5 0 a.length a.length 4,.ms 6 0 g m 4,.ms 7 0 b.length b.length 1,ab p,ai q],qB u 2 y i,qR v w,.cells [ai A,ai B],.row (zF yZ j),.row (zF zJ a),.row (zF yI c),.row (zF zS b)] [.mp 0 0,xF t] (ai r) [.cells [.mp 1 0,.mp 3 0,zH zJ s .no,.ms 4 (d*6) C e 6,ab f,.ms 5 0 a.length a.length 4,.ms 6 0 g m 4,.ms 7 0 b.length b.length 1,ab p,ai q],qB u 2 y i,qR v w,.cells [ai A,ai B],.row (zF yZ j),.row (zF zJ a),.row (zF yI c),.row (zF zS b)] 0:=⟨by
 unfold fN at h
 have z {os ob} (k:Oz os ob):=oD (dI b)<|oD (yB c)<|oD (zE a)<|oD (yU j)<|wS u v w y i<|oD (zE s)<|k
 obtain⟨h1,h⟩|⟨h1,h⟩:=xA h
 obtain rfl:=sj h
 exact tF zBB 0 [0,1,2,3,4,5,6,7] (z<|oB 1 h1 o0)
 obtain⟨r2,h3,h⟩:=zD h
 have k:=oC 2 [] (zVv h3)<|oB 1 h1 o0
 obtain⟨h4,h⟩:=zT h
 obtain rfl:=sj h
 exact tF zBB 1 [0,1,2,3,4,5,6,7] (z<|oB 3 h4 k),⟨(lz rfl),⟨tv,tv,⟨tv,dT _⟩,tv⟩,tv⟩,(zA ⟨(lz rfl),(lz rfl),⟨tv,zE _⟩,(lz rfl),tv,(lz rfl),(lz rfl),(lz rfl),tv,tv,tv⟩ (vY (lz rfl) (zA ⟨tv,tv,tv⟩ (zA (yU _) (zA (zE _) (zA (yB _) (zA (dI _) zB))))))),tv,(zA ⟨(lz rfl),(lz rfl),zE _,(lz rfl),tv,(lz rfl),(lz rfl),(lz rfl),tv,tv,tv⟩ (vQ (lz rfl) (zA ⟨tv,tv,tv⟩ (zA (yU _) (zA (zE _) (zA (yB _) (zA (dI _) zB)))))))⟩
def K0(i:Nat)(q s:yD)(t:xS)(u v:zU)(j A:Int)(y:xN)(w:j0)(B d e:Nat)(f:Bool)(a:xN)(c:qD)(g m:Nat)(b:zU)(n:Bool)(p:Int)(z:wV):Option (Bool×j0×Nat×Nat×Nat×zU×Bool×Int×Int×Int):=
 zFS i (xR.mk q s t u v) z.a_>>=fun r1=>
 if r1.2.2 then
 zFS i (xR.mk q s t u v) z.b_>>=fun r4=>
 if r4.2.2 then
 none
 else
 some (false,w,B,d,e,b,n,p,j,A)
 else
 none
theorem zJi{i q s t u v j A y w B d e f a c g m b n p z r}(h:K0 i q s t u v j A y w B d e f a c g m b n p z=some r):Ct 459 [.cells [.mp 1 0,.mp 3 0,zH zJ y .no,.ms 4 (d*6) B e 6,ab f,.ms 5 0 a.length a.length 4,.ms 6 0 g m 4,.ms 7 0 b.length b.length 1,ab n,ai p],qB q 2 u v,qR s t,.cells [ai j,ai A],.row (zF yZ w),.row (zF zJ a),.row (zF yI c),.row (zF zS b)] [.mp 0 0,lY z] (ab r.1) [.cells [.mp 1 0,.mp 3 0,zH zJ y .no,.ms 4 (r.2.2.2.1*6) r.2.2.1 r.2.2.2.2.1 6,ab f,.ms 5 0 a.length a.length 4,.ms 6 0 g m 4,.ms 8 0 r.2.2.2.2.2.1.length r.2.2.2.2.2.1.length 1,ab r.2.2.2.2.2.2.1,ai r.2.2.2.2.2.2.2.1],qB q 2 u v,qR s t,.cells [ai r.2.2.2.2.2.2.2.2.1,ai r.2.2.2.2.2.2.2.2.2],.row (zF yZ w),.row (zF zJ a),.row (zF yI c),.dead,.row (zF zS r.2.2.2.2.2.1)] 0:=⟨by
 unfold K0 at h
 obtain⟨r1,h2,h⟩:=zD h
 have k:=oC 2 [1,2] (zMo h2) o0
 obtain⟨h3,h⟩:=xD h
 obtain⟨r4,h5,h⟩:=zD h
 have k:=oC 2 [1,2] (zMo h5)<|oB 2 h3 k
 obtain⟨h6,h⟩:=zT h
 cases h
 exact tG ⟨func459,rfl⟩ 2 [(some 7,0,0)] [0,1,2,3,4,5,6,7,9] [] false (oD (dI b)<|oD (yB c)<|oD (zE a)<|oD (yU w)<|wS q s t u v<|oD (zE y)<|oB 2 h6 k),⟨(lz rfl),⟨tv,tv,⟨tv,dT _⟩,tv,tv,⟨tv,dT _⟩,tv⟩,tv⟩,(zA ⟨(lz rfl),(lz rfl),⟨tv,zE _⟩,(lz rfl),tv,(lz rfl),(lz rfl),(lz rfl),tv,tv,tv⟩ (vY (lz rfl) (zA ⟨tv,tv,tv⟩ (zA (yU _) (zA (zE _) (zA (yB _) (zA (dI _) zB))))))),tv,(zA ⟨(lz rfl),(lz rfl),zE _,(lz rfl),tv,(lz rfl),(lz rfl),(lz rfl),tv,tv,tv⟩ (vQ (lz rfl) (zA ⟨tv,tv,tv⟩ (zA (yU _) (zA (zE _) (zA (yB _) (zA tv (zA (dI _) zB))))))))⟩
def K1(i:Nat)(q s:yD)(t:xS)(u v:zU)(j A:Int)(y:xN)(w:j0)(B g m:Nat)(d:Bool)(a:xN)(b:qD)(e f:Nat)(c:zU)(n:Bool)(p:Int)(z:wV):Option (j0×Nat×Nat×Nat×zU×Bool×Int×Int×Int):=
 K0 i q s t u v j A y w B g m d a b e f c n p z>>=fun r1=>
 if r1.1 then
 none
 else
 zMl i (xR.mk q s t u v) z.a_ z.b_ r1.2.2.2.2.2.2.2.2.1 r1.2.2.2.2.2.2.2.2.2>>=fun r4=>
 if r4.1 then
 none
 else
 if r4.2.1 != 0 then
 none
 else
 some (w,r1.2.2.1,r1.2.2.2.1,r1.2.2.2.2.1,r1.2.2.2.2.2.1,r1.2.2.2.2.2.2.1,13,r4.2.2.1,r4.2.2.2)
theorem zJh{i q s t u v j A y w B g m d a b e f c n p z r}(h:K1 i q s t u v j A y w B g m d a b e f c n p z=some r):Ct 449 [.cells [.mp 1 0,.mp 3 0,zH zJ y .no,.ms 4 (g*6) B m 6,ab d,.ms 5 0 a.length a.length 4,.ms 6 0 e f 4,.ms 7 0 c.length c.length 1,ab n,ai p],qB q 2 u v,qR s t,.cells [ai j,ai A],.row (zF yZ w),.row (zF zJ a),.row (zF yI b),.row (zF zS c)] [.mp 0 0,lY z] (.tup []) [.cells [.mp 1 0,.mp 3 0,zH zJ y .no,.ms 4 (r.2.2.1*6) r.2.1 r.2.2.2.1 6,ab d,.ms 5 0 a.length a.length 4,.ms 6 0 e f 4,.ms 8 0 r.2.2.2.2.1.length r.2.2.2.2.1.length 1,ab r.2.2.2.2.2.1,ai r.2.2.2.2.2.2.1],qB q 2 u v,qR s t,.cells [ai r.2.2.2.2.2.2.2.1,ai r.2.2.2.2.2.2.2.2],.row (zF yZ w),.row (zF zJ a),.row (zF yI b),.dead,.row (zF zS r.2.2.2.2.1)] 0:=⟨by
 unfold K1 at h
 obtain⟨r1,h2,h⟩:=zD h
 obtain⟨h3,h⟩:=zT h
 obtain⟨r4,h5,h⟩:=zD h
 have k:=oC 4 [1,2,3] (zUB h5)<|oK 1 [0,1,2,3,4,5,6,7] h3 (zJi h2) o0
 obtain⟨h6,h⟩:=zT h
 have k:=oB 0 h6 k
 obtain⟨h8,h⟩:=zT h
 cases h
 exact tF ⟨func449,rfl⟩ 1 [0,1,2,3,4,5,6,7,9] (oD (dI r1.2.2.2.2.2.1)<|oD (yB b)<|oD (zE a)<|oD (yU w)<|wS q s t u v<|oD (zE y)<|oB 1 h8 k),⟨(lz rfl),⟨tv,tv,⟨tv,dT _⟩,tv,tv,⟨tv,dT _⟩,tv⟩,tv⟩,(zA ⟨(lz rfl),(lz rfl),⟨tv,zE _⟩,(lz rfl),tv,(lz rfl),(lz rfl),(lz rfl),tv,tv,tv⟩ (vY (lz rfl) (zA ⟨tv,tv,tv⟩ (zA (yU _) (zA (zE _) (zA (yB _) (zA (dI _) zB))))))),tv,(zA ⟨(lz rfl),(lz rfl),zE _,(lz rfl),tv,(lz rfl),(lz rfl),(lz rfl),tv,tv,tv⟩ (vQ (lz rfl) (zA ⟨tv,tv,tv⟩ (zA (yU _) (zA (zE _) (zA (yB _) (zA tv (zA (dI _) zB))))))))⟩
def K2(B:Nat)(u v:yD)(w:xS)(y i:zU)(E F:Int)(A:xN)(j:j0)(D e g:Nat)(s:Bool)(d:xN)(m:qD)(p q:Nat)(f:zU)(t:Bool)(C:Int):Option (xN×j0×Nat×Nat×Nat×qD×Nat×Nat×zU×Bool×Int×Int×Int):=
 uR D 0>>=fun x1=>
 yG j ((e+x1):Int)>>=fun x3=>
 nN D 1 (D:Int)>>=fun x5=>
 zAZ B E F>>=fun r7=>
 if r7.1 != 0 then
 none
 else
 w7 B (xR.mk u v w y i) x3.a_ r7.2.1 r7.2.2>>=fun r10=>
 fM B u v w y i r10.2.2.1 r10.2.2.2 A j x5.2 (e+x5.1) (g-x5.1) s d m p q f t C r10.1 r10.2.1>>=fun r12=>
 if r12.2 != 0 then
 none
 else
 w7 B (xR.mk u v w y i) x3.b_ r10.2.2.1 r10.2.2.2>>=fun r15=>
 fM B u v w y i r15.2.2.1 r15.2.2.2 A j x5.2 (e+x5.1) (g-x5.1) s d m p q f t r12.2 r15.1 r15.2.1>>=fun r17=>
 if r17.2 != 0 then
 none
 else
 fN B u v w y i r15.2.2.1 r15.2.2.2 A j x5.2 (e+x5.1) (g-x5.1) s d m p q f t r17.2 r12.1>>=fun r20=>
 fN B u v w y i r15.2.2.1 r15.2.2.2 A j x5.2 (e+x5.1) (g-x5.1) s d m p q f t r17.2 r17.1>>=fun r22=>
 if decide (r20≥0)then
 if r20==r22 then
 some (A,j,x5.2,(e+x5.1),(g-x5.1),m,p,q,f,t,12,r15.2.2.1,r15.2.2.2)
 else
 none
 else
 if decide (r22≥0)then
 none
 else
 K1 B u v w y i r15.2.2.1 r15.2.2.2 A j x5.2 (e+x5.1) (g-x5.1) s d m p q f t r17.2 (wV.mk r12.1 r17.1)>>=fun r37=>
 some (A,j,r37.2.1,r37.2.2.1,r37.2.2.2.1,m,p,q,r37.2.2.2.2.1,r37.2.2.2.2.2.1,r37.2.2.2.2.2.2.1,r37.2.2.2.2.2.2.2.1,r37.2.2.2.2.2.2.2.2)
theorem zBD:Qf 422 f422:=⟨func422,rfl⟩
theorem zJg{B u v w y i E F A j D e g s d m p q f t C r}(h:K2 B u v w y i E F A j D e g s d m p q f t C=some r):Ct 422 [.cells [.mp 1 0,.mp 3 0,zH zJ A .no,.ms 4 (e*6) D g 6,ab s,.ms 5 0 d.length d.length 4,.ms 6 0 p q 4,.ms 7 0 f.length f.length 1,ab t,ai C],qB u 2 y i,qR v w,.cells [ai E,ai F],.row (zF yZ j),.row (zF zJ d),.row (zF yI m),.row (zF zS f)] [.mp 0 0] (.tup []) [.cells [.mp 1 0,.mp 3 0,zH zJ r.1 .no,.ms 4 (r.2.2.2.1*6) r.2.2.1 r.2.2.2.2.1 6,ab s,.ms 5 0 d.length d.length 4,.ms 8 0 r.2.2.2.2.2.2.1 r.2.2.2.2.2.2.2.1 4,.ms 9 0 r.2.2.2.2.2.2.2.2.1.length r.2.2.2.2.2.2.2.2.1.length 1,ab r.2.2.2.2.2.2.2.2.2.1,ai r.2.2.2.2.2.2.2.2.2.2.1],qB u 2 y i,qR v w,.cells [ai r.2.2.2.2.2.2.2.2.2.2.2.1,ai r.2.2.2.2.2.2.2.2.2.2.2.2],.row (zF yZ r.2.1),.row (zF zJ d),.dead,.dead,.row (zF yI r.2.2.2.2.2.1),.row (zF zS r.2.2.2.2.2.2.2.2.1)] 0:=⟨by
 unfold K2 at h
 have z {os ob} (k:Oz os ob):=oD (yB m)<|oD (zE d)<|oD (yU j)<|wS u v w y i<|oD (zE A)<|k
 obtain⟨x1,h2,h⟩:=zD h
 obtain⟨x3,h4,h⟩:=zD h
 obtain⟨x5,h6,h⟩:=zD h
 obtain⟨r7,h8,h⟩:=zD h
 have k:=oC 2 [3] (zFP h8)<|oA 2 (zCV (b:=4) (o:=e) (c:=g) h6)<|oG (a:=(.agg [ai x3.a_.k,ai x3.a_.n,zH zC x3.a_.sub .no,ai x3.b_.k,ai x3.b_.n,zH zC x3.b_.sub .no])) 0 (U1 tN h4 (true,6) (val:=.agg [ai x3.a_.k,ai x3.a_.n,zH zC x3.a_.sub .no,ai x3.b_.k,ai x3.b_.n,zH zC x3.b_.sub .no]) rfl)<|oA 1 (zOI (b:=4) (o:=e) (c:=g) (z:=6) h2) o0
 obtain⟨h9,h⟩:=zT h
 obtain⟨r10,h11,h⟩:=zD h
 obtain⟨r12,h13,h⟩:=zD h
 have k:=oC 2 [0,1,2,3,4,5,6,7] (zBA h13)<|oC 3 [1,2,3] (zDu h11)<|oB 0 h9 k
 obtain⟨h14,h⟩:=zT h
 obtain⟨r15,h16,h⟩:=zD h
 obtain⟨r17,h18,h⟩:=zD h
 have k:=oC 2 [0,1,2,3,4,5,6,7] (zBA h18)<|oC 3 [1,2,3] (zDu h16)<|oB 2 h14 k
 obtain⟨h19,h⟩:=zT h
 obtain⟨r20,h21,h⟩:=zD h
 obtain⟨r22,h23,h⟩:=zD h
 have k:=oC 1 [0,1,2,3,4,5,6,7] (zBC h23)<|oC 1 [0,1,2,3,4,5,6,7] (zBC h21)<|oB 2 h19 k
 obtain⟨h24,h⟩|⟨h24,h⟩:=xA h
 have k:=oB 0 h24 k
 obtain⟨h25,h⟩:=xD h
 cases h
 exact tG zBD 1 [(some 6,0,0),(some 7,0,0)] [0,1,2,3,4,5,6,7,9,10] [] false (oD (dI f)<|z<|oB 0 h25 k)
 have k:=oB 0 h24<|oB 0 h24 k
 obtain⟨h31,h⟩:=zT h
 obtain⟨r37,h38,h⟩:=zD h
 cases h
 exact tG zBD 0 [(some 6,0,0)] [0,1,2,3,4,5,6,7,10,9] [] false (oD (dI r37.2.2.2.2.1)<|z<|oC 1 [0,1,2,3,4,5,6,7] (zJh h38)<|oB 0 h31 k),⟨(lz rfl),tv⟩,(zA ⟨(lz rfl),(lz rfl),⟨tv,zE _⟩,(lz rfl),tv,(lz rfl),(lz rfl),(lz rfl),tv,tv,tv⟩ (vY (lz rfl) (zA ⟨tv,tv,tv⟩ (zA (yU _) (zA (zE _) (zA (yB _) (zA (dI _) zB))))))),tv,(zA ⟨(lz rfl),(lz rfl),zE _,(lz rfl),tv,(lz rfl),(lz rfl),(lz rfl),tv,tv,tv⟩ (vQ (lz rfl) (zA ⟨tv,tv,tv⟩ (zA (yU _) (zA (zE _) (zA tv (zA tv (zA (yB _) (zA (dI _) zB)))))))))⟩
def p6(p:Nat)(M:xR)(a:zU)(f g:Int)(b:xN)(vV vP vW vI vB:Nat)(m:Bool)(d:Int)(e:j0)(n:xN)(t:Int)(q:qD):Option ((vE×Int×Int×Int) ⊕ (xN×qD×zU×Nat×Int×Int×Int)):=
 if decide (t<(vB:Int))then
 none
 else
 gfz n.length n>>=fun l33=>
 gfz vB q>>=fun l35=>
 gfz a.length a>>=fun l37=>
 some (.inr (l33,l35,l37,vI,0,f,g))
def aH:Nat->xR->qD->zU->Int->Int->xN->Nat->Nat->Nat->Nat->Nat->Bool->Int->j0->Int->xN->Option ((vE×Int×Int×Int) ⊕ (xN×qD×zU×Nat×Int×Int×Int))
 |0,_,_,_,_,_,_,_,_,_,_,_,_,_,_,_,_=>none
 |p+1,M,c,a,f,g,b,vV,vP,vW,vI,vB,m,d,e,s,n=>
 if decide (s<(b.length:Int))then
 yG b s>>=fun x16=>
 e92 p x16.type_>>=fun r18=>
 yV 48 n [(wI.mk x16.n_ r18)]>>=fun l20=>
 aH p M c a f g b vV vP vW vI vB m d e (xE (s+1)) l20
 else
 p6 p M a f g b vV vP vW vI vB m d e n 0 c
def aI:Nat->xR->(xN×j0×xN×qD×zU×Int)->qD->zU->Int->Int->xN->Nat->Nat->Nat->Nat->Nat->Bool->Int->j0->Option ((vE×Int×Int×Int) ⊕ (xN×qD×zU×Nat×Int×Int×Int))
 |0,_,_,_,_,_,_,_,_,_,_,_,_,_,_,_=>none
 |p+1,M,r1,c,a,f,g,b,vV,vP,vW,vI,vB,m,d,e=>
 if decide ((vP:Int)>0)then
 if d==0 then
 if m then
 none
 else
 K2 p M.l M.rl M.parts M.args M.own f g b e vP vW vV false r1.2.2.1 c vB vI a m d>>=fun r9=>
 aI p M r1 r9.2.2.2.2.2.1 r9.2.2.2.2.2.2.2.2.1 r9.2.2.2.2.2.2.2.2.2.2.2.1 r9.2.2.2.2.2.2.2.2.2.2.2.2 r9.1 r9.2.2.2.2.1 r9.2.2.1 r9.2.2.2.1 r9.2.2.2.2.2.2.2.1 r9.2.2.2.2.2.2.1 r9.2.2.2.2.2.2.2.2.2.1 r9.2.2.2.2.2.2.2.2.2.2.1 r9.2.1
 else
 none
 else
 if d != 0 then
 some (.inl ((vE.mk false [] [] []),d,f,g))
 else
 if m then
 none
 else
 aH p M c a f g b vV vP vW vI vB m d e 0 r1.2.2.1
def zMX(p:Nat)(M:xR)(w:xN)(y z:zW)(u v:Int):Option ((vE×Int×Int×Int) ⊕ (xN×qD×zU×Nat×Int×Int×Int)):=
 zRt p M w y z u v>>=fun r1=>
 aI p M r1 r1.2.2.2.1 r1.2.2.2.2.1 u v r1.1 r1.2.1.length r1.2.1.length 0 r1.2.2.2.1.length r1.2.2.2.1.length false r1.2.2.2.2.2 r1.2.1
section
variable (M:xR) (w:xN) (y z:zW) (u v:Int)
abbrev zRs (r:vE×Int×Int×Int) (C:Cf):Prop:=C 376 [mB M 1,mR M,.cells [ai u,ai v]] [.mp 0 0,zH zJ w .no,zH zC y .no,zH zC z .no,.mp 2 0] (.tup [uH r.1,ai r.2.1]) [mB M 1,mR M,.cells [ai r.2.2.1,ai r.2.2.2]] 0
abbrev zRr (r:xN×qD×zU×Nat×Int×Int×Int) (C:Cf):Prop:=C 376 [mB M 1,mR M,.cells [ai u,ai v]] [.mp 0 0,zH zJ w .no,zH zC y .no,zH zC z .no,.mp 2 0] (.tup [.agg [ab true,.ms 3 0 r.1.length r.1.length 4,.ms 4 0 r.2.1.length r.2.2.2.1 4,.ms 5 0 r.2.2.1.length r.2.2.1.length 1],ai r.2.2.2.2.1]) [mB M 1,mR M,.cells [ai r.2.2.2.2.2.1,ai r.2.2.2.2.2.2],.row (zF zJ r.1),.row (zF yI r.2.1),.row (zF zS r.2.2.1)] 0
end
theorem zVm:Qf 376 f376:=⟨func376,rfl⟩
theorem zMY{p M a f g b vV vP vW vI vB m d e n t q r}(h:p6 p M a f g b vV vP vW vI vB m d e n t q=some r):(∀j,dL 3 (pt 16777141 f376) (sp j 130 0 [(10,.mp 3 0),(12,.mp 4 0),(107,.ms 5 0 vB vI 4),(108,ai (vB:Int)),(109,ai t)]) (⟨[(0,mB M 1),(1,mR M),(2,.cells [ai f,ai g]),(3,.cells [ab false,.ms 6 0 (List.length ([]:xN)) (List.length ([]:xN)) 4,.ms 7 0 (List.length ([]:qD)) (List.length ([]:qD)) 4,.ms 8 0 (List.length ([]:zU)) (List.length ([]:zU)) 1]),(4,.cells [.mp 0 0,.mp 2 0,zH zJ b .no,.ms 9 (vW*6) vP vV 6,ab true,.ms 10 0 n.length n.length 4,.ms 5 0 vB vI 4,.ms 11 0 a.length a.length 1,ab m,ai d]),(5,.row (zF yI q)),(6,.row (zF zJ ([]:xN))),(7,.row (zF yI ([]:qD))),(8,.row (zF zS ([]:zU))),(9,.row (zF yZ e)),(10,.row (zF zJ n)),(11,.row (zF zS a))],12,[],0,[]⟩) (fQ 3 ((match (generalizing:=false) r with | .inl x=>nQ 3 f376 (.tup [uH x.1,ai x.2.1]) [mB M 1,mR M,.cells [ai x.2.2.1,ai x.2.2.2]] 0 | .inr x=>nQ 3 f376 (.tup [.agg [ab true,.ms 3 0 x.1.length x.1.length 4,.ms 4 0 x.2.1.length x.2.2.2.1 4,.ms 5 0 x.2.2.1.length x.2.2.1.length 1],ai x.2.2.2.2.1]) [mB M 1,mR M,.cells [ai x.2.2.2.2.2.1,ai x.2.2.2.2.2.2],.row (zF zJ x.1),.row (zF yI x.2.1),.row (zF zS x.2.2.1)] 0)) [.blk 4,.seq (pt 262143 f376)])):=by
 unfold p6 at h
 obtain⟨h22,h⟩:=zT h
 obtain⟨l33,h34,h⟩:=zD h
 obtain⟨h34a,h34b⟩:=tD h34
 obtain⟨l35,h36,h⟩:=zD h
 obtain⟨h36a,h36b⟩:=tD h36
 obtain⟨l37,h38,h⟩:=zD h
 obtain⟨h38a,h38b⟩:=tD h38
 cases h
 obtain rfl:=h34a.symm
 obtain rfl:=h36a.symm
 obtain rfl:=h38a.symm
 try dsimp only
 rw[←h34b,←h36b,←h38b]
 exact fun j=>lF 2 [0,1,2,10,5,11] (oD (dI a)<|oD (yB q)<|oD (zE n)<|tB M<|oB 0 h22 o0)
theorem zMZ:∀p:Nat,(∀ {M c a f g b vV vP vW vI vB m d e s n r},aH p M c a f g b vV vP vW vI vB m d e s n=some r->(∀j,dL 3 (pt 4194229 f376) (sp j 130 0 [(10,.mp 3 0),(12,.mp 4 0),(79,zH zJ b .no),(80,ai (b.length:Int)),(81,ai s)]) (⟨[(0,mB M 1),(1,mR M),(2,.cells [ai f,ai g]),(3,.cells [ab false,.ms 5 0 (List.length ([]:xN)) (List.length ([]:xN)) 4,.ms 6 0 (List.length ([]:qD)) (List.length ([]:qD)) 4,.ms 7 0 (List.length ([]:zU)) (List.length ([]:zU)) 1]),(4,.cells [.mp 0 0,.mp 2 0,zH zJ b .no,.ms 8 (vW*6) vP vV 6,ab true,.ms 9 0 n.length n.length 4,.ms 10 0 vB vI 4,.ms 11 0 a.length a.length 1,ab m,ai d]),(5,.row (zF zJ ([]:xN))),(6,.row (zF yI ([]:qD))),(7,.row (zF zS ([]:zU))),(8,.row (zF yZ e)),(9,.row (zF zJ n)),(10,.row (zF yI c)),(11,.row (zF zS a))],12,[],0,[]⟩) (fQ 3 ((match (generalizing:=false) r with | .inl x=>nQ 3 f376 (.tup [uH x.1,ai x.2.1]) [mB M 1,mR M,.cells [ai x.2.2.1,ai x.2.2.2]] 0 | .inr x=>nQ 3 f376 (.tup [.agg [ab true,.ms 3 0 x.1.length x.1.length 4,.ms 4 0 x.2.1.length x.2.2.2.1 4,.ms 5 0 x.2.2.1.length x.2.2.1.length 1],ai x.2.2.2.2.1]) [mB M 1,mR M,.cells [ai x.2.2.2.2.2.1,ai x.2.2.2.2.2.2],.row (zF zJ x.1),.row (zF yI x.2.1),.row (zF zS x.2.2.1)] 0)) [.blk 2,.seq (pt 65535 f376)]))):=by
 intro p
 induction p with
 |zero=>
  exact fun h=>nn h
 |succ p ih=>
  intro M c a f g b vV vP vW vI vB m d e s n r h
  rw[aH]at h
  obtain⟨h15,h⟩|⟨h15,h⟩:=xA h
  obtain⟨x16,h17,h⟩:=zD h
  obtain⟨r18,h19,h⟩:=zD h
  obtain⟨l20,h21,h⟩:=zD h
  exact fun j=>lH 2 [] [0,1,2,3,4,5,6,7,8,13,10,11] [] [10,12,79,80,81] (oD (zE b)<|oD (dI a)<|oD (yB c)<|oD (zE l20)<|oD (yU e)<|oD (dI ([]:zU))<|oD (yB ([]:qD))<|oD (zE ([]:xN))<|oD (zE b)<|tB M<|oM 1 (zSB h21 (by simp))<|oC 1 [] (c92 h19)<|rF 0<|rF 2<|oA 0 (gX (o:=.no) h17)<|oB 0 h15 o0) (ih h)
  exact fun j=>lH 2 [] [0,1,2,3,4,10,5,6,7,8,9,11] [] [10,12,107,108,109] (oD (dI a)<|oD (zE n)<|oD (yU e)<|oD (dI ([]:zU))<|oD (yB ([]:qD))<|oD (zE ([]:xN))<|oD (yB c)<|oD (zE b)<|tB M<|oB 0 h15 o0) (zMY h)
theorem zED:∀p:Nat,(∀ {M r1 c a f g b vV vP vW vI vB m d e r},aI p M r1 c a f g b vV vP vW vI vB m d e=some r->(∀j,dL 3 (pt 4069 f376) (sp j 130 0 [(10,.mp 3 0),(12,.mp 4 0)]) (⟨[(0,mB M 1),(1,mR M),(2,.cells [ai f,ai g]),(3,.cells [ab false,.ms 5 0 (List.length ([]:xN)) (List.length ([]:xN)) 4,.ms 6 0 (List.length ([]:qD)) (List.length ([]:qD)) 4,.ms 7 0 (List.length ([]:zU)) (List.length ([]:zU)) 1]),(4,.cells [.mp 0 0,.mp 2 0,zH zJ b .no,.ms 8 (vW*6) vP vV 6,ab false,.ms 9 0 r1.2.2.1.length r1.2.2.1.length 4,.ms 10 0 vB vI 4,.ms 11 0 a.length a.length 1,ab m,ai d]),(5,.row (zF zJ ([]:xN))),(6,.row (zF yI ([]:qD))),(7,.row (zF zS ([]:zU))),(8,.row (zF yZ e)),(9,.row (zF zJ r1.2.2.1)),(10,.row (zF yI c)),(11,.row (zF zS a))],12,[],0,[]⟩) (fQ 3 ((match (generalizing:=false) r with | .inl x=>nQ 3 f376 (.tup [uH x.1,ai x.2.1]) [mB M 1,mR M,.cells [ai x.2.2.1,ai x.2.2.2]] 0 | .inr x=>nQ 3 f376 (.tup [.agg [ab true,.ms 3 0 x.1.length x.1.length 4,.ms 4 0 x.2.1.length x.2.2.2.1 4,.ms 5 0 x.2.2.1.length x.2.2.1.length 1],ai x.2.2.2.2.1]) [mB M 1,mR M,.cells [ai x.2.2.2.2.2.1,ai x.2.2.2.2.2.2],.row (zF zJ x.1),.row (zF yI x.2.1),.row (zF zS x.2.2.1)] 0)) [.blk 0,.seq (pt 255 f376)]))):=by
 intro p
 induction p with
 |zero=>
  exact fun h=>nn h
 |succ p ih=>
  intro M r1 c a f g b vV vP vW vI vB m d e r h
  rw[aI]at h
  obtain⟨h3,h⟩|⟨h3,h⟩:=xA h
  have k:=oB 2 h3 o0
  obtain⟨h4,h⟩:=xD h
  have k:=oB 1 h4 k
  obtain⟨h5,h⟩:=zT h
  obtain⟨r9,h10,h⟩:=zD h
  exact fun j=>lH 0 [] [0,1,2,3,4,5,6,7,8,9,12,13] [] [10,12] (oD (dI r9.2.2.2.2.2.2.2.2.1)<|oD (yB r9.2.2.2.2.2.1)<|oD (zE r1.2.2.1)<|oD (yU r9.2.1)<|oD (dI ([]:zU))<|oD (yB ([]:qD))<|oD (zE ([]:xN))<|oD (zE r9.1)<|tB M<|oC 1 [4,0,1,2,8,9,10,11] (zJg h10)<|oB 0 h5 k) (ih h)
  have k:=oB 2 h3 o0
  obtain⟨h15,h⟩|⟨h15,h⟩:=xA h
  cases h
  exact fun j=>lF 2 [0,1,2] (oD (dI ([]:zU))<|oD (yB ([]:qD))<|oD (zE ([]:xN))<|tB M<|oB 1 h15 k)
  have k:=oB 1 h15 k
  obtain⟨h16,h⟩:=zT h
  exact fun j=>lH 3 [] [0,1,2,3,4,5,6,7,8,9,10,11] [] [10,12,79,80,81] (oD (zE b)<|oD (dI a)<|oD (yB c)<|oD (zE r1.2.2.1)<|oD (yU e)<|oD (dI ([]:zU))<|oD (yB ([]:qD))<|oD (zE ([]:xN))<|oD (zE b)<|tB M<|oB 0 h16 k) (zMZ _ h)
theorem zVl{p M w y z u v r}(h:zMX p M w y z u v=some r):(match (generalizing:=false) r with | .inl x=>zRs M w y z u v x Ct | .inr x=>zRr M w y z u v x Ct):=by
 unfold zMX at h
 obtain⟨r1,h2,h⟩:=zD h
 rcases r with y0|y1
 exact⟨tH zVm 3 [(some 3,1,4100),(some 3,2,4100),(some 3,3,4097)] [0,1,2,3,4,9,10,11,5,6,7,8] [] [10,12] (oD (dI r1.2.2.2.2.1)<|oD (yB r1.2.2.2.1)<|oD (zE r1.2.2.1)<|oD (yU r1.2.1)<|oD (dI ([]:zU))<|oD (yB ([]:qD))<|oD (zE ([]:xN))<|oD (zE r1.1)<|tB M<|oC 0 [0,1,2] (zVn h2) o0) (zED _ h),⟨(lz rfl),⟨tv,zE _⟩,⟨tv,dT _⟩,⟨tv,dT _⟩,(lz rfl),tv⟩,(vY (lz rfl) (zA ⟨tv,tv,tv⟩ zB)),⟨⟨tv,zE _,yB _,dI _,tv⟩,tv,tv⟩,(vQ (lz rfl) (zA ⟨tv,tv,tv⟩ zB))⟩
 exact⟨tH zVm 3 [(some 3,1,4100),(some 3,2,4100),(some 3,3,4097)] [0,1,2,3,4,9,10,11,5,6,7,8] [] [10,12] (oD (dI r1.2.2.2.2.1)<|oD (yB r1.2.2.2.1)<|oD (zE r1.2.2.1)<|oD (yU r1.2.1)<|oD (dI ([]:zU))<|oD (yB ([]:qD))<|oD (zE ([]:xN))<|oD (zE r1.1)<|tB M<|oC 0 [0,1,2] (zVn h2) o0) (zED _ h),⟨(lz rfl),⟨tv,zE _⟩,⟨tv,dT _⟩,⟨tv,dT _⟩,(lz rfl),tv⟩,(vY (lz rfl) (zA ⟨tv,tv,tv⟩ zB)),⟨⟨tv,(lz rfl),(lz rfl),(lz rfl),tv⟩,tv,tv⟩,(vQ (lz rfl) (zA ⟨tv,tv,tv⟩ (zA (zE _) (zA (yB _) (zA (dI _) zB)))))⟩
theorem zNz{p M w y z u v r}(h:zMX p M w y z u v=some r):(match (generalizing:=false) r with | .inl x=>CT prog 376 [mB M 1,mR M,.cells [ai u,ai v]] [.mp 0 0,zH zJ w .no,zH zC y .no,zH zC z .no,.mp 2 0] (.tup [uH x.1,ai x.2.1]) [mB M 1,mR M,.cells [ai x.2.2.1,ai x.2.2.2]] 0 | .inr x=>CT prog 376 [mB M 1,mR M,.cells [ai u,ai v]] [.mp 0 0,zH zJ w .no,zH zC y .no,zH zC z .no,.mp 2 0] (.tup [uH (vE.mk true x.1 x.2.1 x.2.2.1),ai x.2.2.2.2.1]) [mB M 1,mR M,.cells [ai x.2.2.2.2.2.1,ai x.2.2.2.2.2.2]] 0):=by
 have k:=zVl h
 rcases r with y0|y1
 ·exact k
 ·replace k:=CT.freeze (H1:=[mB M 1,mR M,.cells [ai y1.2.2.2.2.2.1,ai y1.2.2.2.2.2.2],.row (zF zJ y1.1),.row (zF yI y1.2.1)]) (cs:=zF zS y1.2.2.1) (res':=(.tup [.agg [ab true,.ms 3 0 y1.1.length y1.1.length 4,.ms 4 0 y1.2.1.length y1.2.2.2.1 4,zH zS y1.2.2.1 .no],ai y1.2.2.2.2.1])) k (Nat.le_of_ble_eq_true rfl) (vQ (lz rfl) (zA ⟨tv,tv,tv⟩ (zA (zE _) (zA (yB _) zB)))) (dI _) ⟨⟨trivial,(.inr (show 3<5 by decide)),(.inr (show 4<5 by decide)),(.inl ⟨rfl,rfl⟩),tv⟩,trivial,tv⟩ (by rfl) rfl;replace k:=CT.freeze (H1:=[mB M 1,mR M,.cells [ai y1.2.2.2.2.2.1,ai y1.2.2.2.2.2.2],.row (zF zJ y1.1)]) (cs:=zF yI y1.2.1) (res':=(.tup [.agg [ab true,.ms 3 0 y1.1.length y1.1.length 4,zH yI y1.2.1 .no,zH zS y1.2.2.1 .no],ai y1.2.2.2.2.1])) k (Nat.le_of_ble_eq_true rfl) (vQ (lz rfl) (zA ⟨tv,tv,tv⟩ (zA (zE _) zB))) (yB _) ⟨⟨trivial,(.inr (show 3<4 by decide)),(.inl ⟨rfl,rfl⟩),dI _,tv⟩,trivial,tv⟩ (by rfl) rfl;exact CT.freeze (H1:=[mB M 1,mR M,.cells [ai y1.2.2.2.2.2.1,ai y1.2.2.2.2.2.2]]) (cs:=zF zJ y1.1) (res':=(.tup [uH (vE.mk true y1.1 y1.2.1 y1.2.2.1),ai y1.2.2.2.2.1])) k (Nat.le_of_ble_eq_true rfl) (vQ (lz rfl) (zA ⟨tv,tv,tv⟩ zB)) (zE _) ⟨⟨trivial,(.inl ⟨rfl,rfl⟩),yB _,dI _,tv⟩,trivial,tv⟩ (by rfl) rfl
def zRq(f:Nat)(M:xR)(e:yD)(c:xN)(d m n:Int)(a b:zW)(g:Int):Option (yY×Int×Int×Int):=
 zRx f M e c d m n a b g>>=fun r1=>
 if r1.2.2 != 0 then
 none
 else
 zLT f g>>=fun r4=>
 zDv f r4 a>>=fun r6=>
 e58 f r1.1>>=fun r8=>
 zDv f r6 r8>>=fun r10=>
 jX f r10>>=fun r12=>
 if r12 then
 zVq f c>>=fun r15=>
 yV 48 r15 r1.1>>=fun l17=>
 zRv f l17 d r10>>=fun r20=>
 if r20.2 != 0 then
 none
 else
 zMX f M r20.1 r1.2.1 b m n>>=fun r23=>
 match r23 with
 | .inl y25=>
  if y25.2.1 != 0 then
  some ((yY.mk 0 false [] [] []),y25.2.1,y25.2.2.1,y25.2.2.2)
  else
  none
 | .inr y36=>
  if y36.2.2.2.2.1 != 0 then
  none
  else
  zMP f y36.2.1 r10>>=fun r38=>
  if r38.2 != 0 then
  none
  else
  yV 48 [(wR.mk d r38.1)] y36.2.1>>=fun l41=>
  zGo f r1.1>>=fun r44=>
  some ((yY.mk g true r44 y36.1 l41),0,y36.2.2.2.2.2.1,y36.2.2.2.2.2.2)
 else
 none
theorem zGl:Qf 290 f290:=⟨func290,rfl⟩
theorem zYo{f M e c d m n a b g r}(h:zRq f M e c d m n a b g=some r):Ct 290 [.cells [.mp 1 0,zH yE e .no,zH zJ c .no,ai d,.mp 3 0,zH zC a .no,zH zC b .no],mB M 2,mR M,.cells [ai m,ai n]] [.mp 0 0,ai g] (.tup [rO r.1,ai r.2.1]) [.cells [.mp 1 0,zH yE e .no,zH zJ c .no,ai d,.mp 3 0,zH zC a .no,zH zC b .no],mB M 2,mR M,.cells [ai r.2.2.1,ai r.2.2.2]] 0:=⟨by
 unfold zRq at h
 have z {os ob} (k:Oz os ob):=tB M<|oD (dT b)<|oD (dT a)<|oD (zE c)<|oD (dE e)<|k
 have z1 {os ob} (k:Oz os ob):=oD (yB ([]:qD))<|oD (zE ([]:xN))<|oD (dI ([]:zU))<|k
 obtain⟨r1,h2,h⟩:=zD h
 have k:=oC 0 [0,1,2,3] (zYr h2) o0
 obtain⟨h3,h⟩:=zT h
 obtain⟨r4,h5,h⟩:=zD h
 obtain⟨r6,h7,h⟩:=zD h
 obtain⟨r8,h9,h⟩:=zD h
 obtain⟨r10,h11,h⟩:=zD h
 obtain⟨r12,h13,h⟩:=zD h
 have k:=oC 0 [] (zIf h11)<|oC 0 [] (c58 h9)<|oC 0 [] (zIf h7)<|rF 0<|oC 0 [] (zUn h5)<|oB 3 h3 k
 obtain⟨h14,h⟩:=xD h
 obtain⟨r15,h16,h⟩:=zD h
 obtain⟨l17,h18,h⟩:=zD h
 have k:=oC 2 [] (zYq h16)<|oK 2 [] h14 (jM h13) k
 by_cases h19:List.length r1.1=0
 obtain⟨r20,h21,h⟩:=zD h
 have k:=oC 1 [] (zVo h21)<|rF 0<|oP 0 (zSd h18 h19) k
 obtain⟨h22,h⟩:=zT h
 obtain⟨r23,h24,h⟩:=zD h
 have k:=oB 2 h22 k
 rcases r23 with y25|y36
 dsimp only at h
 have k:=oC 3 [1,2,3] (zNz h24) k
 obtain⟨h26,h⟩:=xD h
 cases h
 exact tF zGl 1 [0,1,2,3] (z1<|z<|oB 3 h26 k)
 dsimp only at h
 have k:=oC 3 [1,2,3] (zNz h24) k
 obtain⟨h37,h⟩:=zT h
 obtain⟨r38,h39,h⟩:=zD h
 have k:=oC 4 [] (zQW h39)<|oB 3 h37 k
 obtain⟨h40,h⟩:=zT h
 obtain⟨l41,h42,h⟩:=zD h
 have k:=oB 3 h40 k
 by_cases h43:List.length y36.2.1=0
 obtain⟨r44,h45,h⟩:=zD h
 cases h
 exact tF zGl 1 [0,1,2,3] (oD (yB l41)<|oD (zE y36.1)<|oD (dI r44)<|z<|rF 0<|oC 0 [] (zBh h45)<|oP 4 (zHc h42 h43) k)
 obtain⟨r44,h45,h⟩:=zD h
 cases h
 exact tF zGl 1 [0,1,2,3] (oD (yB l41)<|oD (zE y36.1)<|oD (dI r44)<|z<|rF 0<|oC 0 [] (zBh h45)<|oP 4 (zHC h42 h43) k)
 obtain⟨r20,h21,h⟩:=zD h
 have k:=oC 1 [] (zVo h21)<|rF 0<|oP 0 (zAb h18 h19) k
 obtain⟨h22,h⟩:=zT h
 obtain⟨r23,h24,h⟩:=zD h
 have k:=oB 2 h22 k
 rcases r23 with y25|y36
 dsimp only at h
 have k:=oC 3 [1,2,3] (zNz h24) k
 obtain⟨h26,h⟩:=xD h
 cases h
 exact tF zGl 1 [0,1,2,3] (z1<|z<|oB 3 h26 k)
 dsimp only at h
 have k:=oC 3 [1,2,3] (zNz h24) k
 obtain⟨h37,h⟩:=zT h
 obtain⟨r38,h39,h⟩:=zD h
 have k:=oC 4 [] (zQW h39)<|oB 3 h37 k
 obtain⟨h40,h⟩:=zT h
 obtain⟨l41,h42,h⟩:=zD h
 have k:=oB 3 h40 k
 by_cases h43:List.length y36.2.1=0
 obtain⟨r44,h45,h⟩:=zD h
 cases h
 exact tF zGl 1 [0,1,2,3] (oD (yB l41)<|oD (zE y36.1)<|oD (dI r44)<|z<|rF 0<|oC 0 [] (zBh h45)<|oP 4 (zHc h42 h43) k)
 obtain⟨r44,h45,h⟩:=zD h
 cases h
 exact tF zGl 1 [0,1,2,3] (oD (yB l41)<|oD (zE y36.1)<|oD (dI r44)<|z<|rF 0<|oC 0 [] (zBh h45)<|oP 4 (zHC h42 h43) k),⟨(lz rfl),tv,tv⟩,(zA ⟨(lz rfl),⟨tv,dE _⟩,⟨tv,zE _⟩,tv,(lz rfl),⟨tv,dT _⟩,⟨tv,dT _⟩,tv⟩ (vY (lz rfl) (zA ⟨tv,tv,tv⟩ zB))),⟨⟨tv,tv,dI _,zE _,yB _,tv⟩,tv,tv⟩,(zA ⟨(lz rfl),dE _,zE _,tv,(lz rfl),dT _,dT _,tv⟩ (vQ (lz rfl) (zA ⟨tv,tv,tv⟩ zB)))⟩
def zRp(a:Nat)(M:xR)(c:xN)(d b e f:Int):Option (yY×Int×Int×Int):=
 zMK a M c d e f>>=fun r1=>
 if r1.2.1 != 0 then
 none
 else
 yG r1.2.2.2.2.1 r1.1>>=fun x4=>
 zDo a x4.cons b>>=fun r6=>
 if r6 then
 zRq a M r1.2.2.2.2.1 r1.2.2.2.2.2.1 r1.2.2.2.2.2.2.1 r1.2.2.1 r1.2.2.2.1 r1.2.2.2.2.2.2.2.1 r1.2.2.2.2.2.2.2.2 b>>=fun r9=>
 some (r9.1,r9.2.1,r9.2.2.1,r9.2.2.2)
 else
 none
theorem zYn{a M c d b e f r}(h:zRp a M c d b e f=some r):Ct 189 [mB M 1,mR M,.cells [ai e,ai f]] [.mp 0 0,zH zJ c .no,ai d,ai b,.mp 2 0] (.tup [rO r.1,ai r.2.1]) [mB M 1,mR M,.cells [ai r.2.2.1,ai r.2.2.2]] 0:=⟨by
 unfold zRp at h
 obtain⟨r1,h2,h⟩:=zD h
 have k:=oC 0 [0,1,2] (zVu h2) o0
 obtain⟨h3,h⟩:=zT h
 obtain⟨x4,h5,h⟩:=zD h
 obtain⟨r6,h7,h⟩:=zD h
 have k:=oA 1 (vF (o:=.no) h5)<|oB 3 h3 k
 obtain⟨h8,h⟩:=xD h
 obtain⟨r9,h10,h⟩:=zD h
 cases h
 exact tF ⟨func189,rfl⟩ 3 [0,1,2] (oD (yB r9.1.solved_)<|oD (zE r9.1.vars_)<|oD (dI r9.1.args_)<|tB M<|oC 1 [4,0,1,2] (zYo h10)<|oK 1 [] h8 (zJx h7) k),⟨(lz rfl),⟨tv,zE _⟩,tv,tv,(lz rfl),tv⟩,(vY (lz rfl) (zA ⟨tv,tv,tv⟩ zB)),⟨⟨tv,tv,dI _,zE _,yB _,tv⟩,tv,tv⟩,(vQ (lz rfl) (zA ⟨tv,tv,tv⟩ zB))⟩
def K3(t:Nat)(s n:Int)(c d:yD)(e:xS)(f g:zU)(m:xN)(p q b:Int)(a:List yY):Option (Int×Int×Int×List yY):=
 if n==0 then
 zRp t (xR.mk c d e f g) m p s q b>>=fun r2=>
 yV 88 a [r2.1]>>=fun l4=>
 some (r2.2.1,r2.2.2.1,r2.2.2.2,l4)
 else
 some (n,q,b,a)
theorem zBE:Qf 188 f188:=⟨func188,rfl⟩
theorem zJf{t s n c d e f g m p q b a r}(h:K3 t s n c d e f g m p q b a=some r):Ct 188 [.cells [ai n],.cells [.mp 2 0],qB c 3 f g,qR d e,.cells [zH zJ m .no],.cells [ai p],.cells [.mp 7 0],.cells [ai q,ai b],.cells [.ms 9 0 a.length a.length 5],.row (zF xI a)] [ai s,.mp 0 0,.mp 1 0,.mp 4 0,.mp 5 0,.mp 6 0,.mp 8 0] (.tup []) [.cells [ai r.1],.cells [.mp 2 0],qB c 3 f g,qR d e,.cells [zH zJ m .no],.cells [ai p],.cells [.mp 7 0],.cells [ai r.2.1,ai r.2.2.1],.cells [.ms 10 0 r.2.2.2.length r.2.2.2.length 5],.dead,.row (zF xI r.2.2.2)] 0:=⟨by
 unfold K3 at h
 obtain⟨h1,h⟩|⟨h1,h⟩:=xA h
 obtain⟨r2,h3,h⟩:=zD h
 obtain⟨l4,h5,h⟩:=zD h
 cases h
 exact tF zBE 1 [0,1,2,3,4,5,6,7,8,9,11] (oD (xW l4)<|oD (zE m)<|wS c d e f g<|oM 7 (zOb h5 (by simp))<|oC 4 [2,3,7] (zYn h3)<|oB 1 h1 o0)
 cases h
 exact tG zBE 0 [(some 9,0,0)] [0,1,2,3,4,5,6,7,8,9,10] [] false (oD (xW a)<|oD (zE m)<|wS c d e f g<|oB 1 h1 o0),⟨tv,(lz rfl),(lz rfl),(lz rfl),(lz rfl),(lz rfl),(lz rfl),tv⟩,(zA ⟨tv,tv⟩ (zA ⟨(lz rfl),tv⟩ (vY (lz rfl) (zA ⟨⟨tv,zE _⟩,tv⟩ (zA ⟨tv,tv⟩ (zA ⟨(lz rfl),tv⟩ (zA ⟨tv,tv,tv⟩ (zA ⟨(lz rfl),tv⟩ (zA (xW _) zB))))))))),tv,(zA ⟨tv,tv⟩ (zA ⟨(lz rfl),tv⟩ (vQ (lz rfl) (zA ⟨zE _,tv⟩ (zA ⟨tv,tv⟩ (zA ⟨(lz rfl),tv⟩ (zA ⟨tv,tv,tv⟩ (zA ⟨(lz rfl),tv⟩ (zA tv (zA (xW _) zB))))))))))⟩
def aJ:Nat->xR->xN->Int->pN->Int->Int->Int->Int->List yY->Option ((List yY×Int×Int×Int) ⊕ (List yY×Int×Int×Int))
 |0,_,_,_,_,_,_,_,_,_=>none
 |m+1,M,e,f,x4,g,b,c,d,a=>
 if decide (g<(x4.cons.length:Int))then
 yG x4.cons g>>=fun x7=>
 K3 m x7 d M.l M.rl M.parts M.args M.own e f b c a>>=fun r9=>
 aJ m M e f x4 (xE (g+1)) r9.2.1 r9.2.2.1 r9.1 r9.2.2.2
 else
 if d != 0 then
 some (.inl ([],d,b,c))
 else
 gfz a.length a>>=fun l12=>
 some (.inr (l12,0,b,c))
def zJe(m:Nat)(M:xR)(e:xN)(f n p:Int):Option ((List yY×Int×Int×Int) ⊕ (List yY×Int×Int×Int)):=
 zMK m M e f n p>>=fun r1=>
 if r1.2.1 != 0 then
 none
 else
 yG r1.2.2.2.2.1 r1.1>>=fun x4=>
 aJ m M e f x4 0 r1.2.2.1 r1.2.2.2.1 r1.2.1 ([]:List yY)
section
variable (M:xR) (e:xN) (f n p:Int)
abbrev zRo (r:List yY×Int×Int×Int) (C:Cf):Prop:=C 115 [mB M 1,mR M,.cells [ai n,ai p]] [.mp 0 0,zH zJ e .no,ai f,.mp 2 0] (.tup [.sl (zF xI r.1) r.1.length .no,ai r.2.1]) [mB M 1,mR M,.cells [ai r.2.2.1,ai r.2.2.2]] 0
abbrev zRn (r:List yY×Int×Int×Int) (C:Cf):Prop:=C 115 [mB M 1,mR M,.cells [ai n,ai p]] [.mp 0 0,zH zJ e .no,ai f,.mp 2 0] (.tup [.ms 3 0 r.1.length r.1.length 5,ai r.2.1]) [mB M 1,mR M,.cells [ai r.2.2.1,ai r.2.2.2],.row (zF xI r.1)] 0
end
theorem zVk:Qf 115 f115:=⟨func115,rfl⟩
theorem zEE:∀m:Nat,(∀ {M e f x4 g b c d a r},aJ m M e f x4 g b c d a=some r->(∀j,dL 3 (pt 262069 f115) (sp j 51 0 [(12,.mp 3 0),(13,.mp 4 0),(14,.clo 188 [] [.mp 3 0,.mp 5 0,.mp 6 0,.mp 7 0,.mp 8 0,.mp 4 0]),(37,zH zS x4.cons .no),(38,ai (x4.cons.length:Int)),(39,ai g)]) (⟨[(0,mB M 1),(1,mR M),(2,.cells [ai b,ai c]),(3,.cells [ai d]),(4,.cells [.ms 9 0 a.length a.length 5]),(5,.cells [.mp 0 0]),(6,.cells [zH zJ e .no]),(7,.cells [ai f]),(8,.cells [.mp 2 0]),(9,.row (zF xI a))],10,[],0,[]⟩) (fQ 3 ((match (generalizing:=false) r with | .inl x=>nQ 3 f115 (.tup [.sl (zF xI x.1) x.1.length .no,ai x.2.1]) [mB M 1,mR M,.cells [ai x.2.2.1,ai x.2.2.2]] 0 | .inr x=>nQ 3 f115 (.tup [.ms 3 0 x.1.length x.1.length 5,ai x.2.1]) [mB M 1,mR M,.cells [ai x.2.2.1,ai x.2.2.2],.row (zF xI x.1)] 0)) [.blk 0,.seq (pt 4095 f115)]))):=by
 intro m
 induction m with
 |zero=>
  exact fun h=>nn h
 |succ m ih=>
  intro M e f x4 g b c d a r h
  rw[aJ]at h
  obtain⟨h6,h⟩|⟨h6,h⟩:=xA h
  obtain⟨x7,h8,h⟩:=zD h
  obtain⟨r9,h10,h⟩:=zD h
  exact fun j=>lH 1 [] [0,1,2,3,4,5,6,7,8,10] [] [12,13,14,37,38,39] (oD (dI x4.cons)<|oD (xW r9.2.2.2)<|oD (zE e)<|tB M<|oC 1 [3,5,0,1,6,7,8,2,4,9] (zJf h10)<|oA 0 (sU (o:=.no) h8)<|oB 0 h6 o0) (ih h)
  have k:=oB 0 h6 o0
  obtain⟨h11,h⟩|⟨h11,h⟩:=xA h
  cases h
  exact fun j=>lF 1 [0,1,2] (oD (xW ([]:List yY))<|tB M<|oB 1 h11 k)
  obtain⟨l12,h13,h⟩:=zD h
  obtain⟨h13a,h13b⟩:=tD h13
  cases h
  obtain rfl:=h13a.symm
  try dsimp only
  rw[←h13b]
  exact fun j=>lF 1 [0,1,2,9] (oD (xW a)<|tB M<|oB 1 h11 k)
theorem zVj{m M e f n p r}(h:zJe m M e f n p=some r):(match (generalizing:=false) r with | .inl x=>zRo M e f n p x Ct | .inr x=>zRn M e f n p x Ct):=by
 unfold zJe at h
 have z {os ob} (k:Oz os ob):=oD (xW ([]:List yY))<|oD (zE e)<|tB M<|k
 obtain⟨r1,h2,h⟩:=zD h
 have k:=oC 4 [0,1,2] (zVu h2) o0
 obtain⟨h3,h⟩:=zT h
 obtain⟨x4,h5,h⟩:=zD h
 rcases r with y0|y1
 exact⟨tH zVk 2 [(some 9,0,4101)] [0,1,2,8,9,3,4,5,6,10] [] [12,13,14,37,38,39] (oD (dI x4.cons)<|z<|oA 1 (vF (o:=.no) h5)<|oB 5 h3 k) (zEE _ h),⟨(lz rfl),⟨tv,zE _⟩,tv,(lz rfl),tv⟩,(vY (lz rfl) (zA ⟨tv,tv,tv⟩ zB)),⟨xW _,tv,tv⟩,(vQ (lz rfl) (zA ⟨tv,tv,tv⟩ zB))⟩
 exact⟨tH zVk 2 [(some 9,0,4101)] [0,1,2,8,9,3,4,5,6,10] [] [12,13,14,37,38,39] (oD (dI x4.cons)<|z<|oA 1 (vF (o:=.no) h5)<|oB 5 h3 k) (zEE _ h),⟨(lz rfl),⟨tv,zE _⟩,tv,(lz rfl),tv⟩,(vY (lz rfl) (zA ⟨tv,tv,tv⟩ zB)),⟨(lz rfl),tv,tv⟩,(vQ (lz rfl) (zA ⟨tv,tv,tv⟩ (zA (xW _) zB)))⟩
theorem zNy{m M e f n p r}(h:zJe m M e f n p=some r):(match (generalizing:=false) r with | .inl x=>CT prog 115 [mB M 1,mR M,.cells [ai n,ai p]] [.mp 0 0,zH zJ e .no,ai f,.mp 2 0] (.tup [.sl (zF xI x.1) x.1.length .no,ai x.2.1]) [mB M 1,mR M,.cells [ai x.2.2.1,ai x.2.2.2]] 0 | .inr x=>CT prog 115 [mB M 1,mR M,.cells [ai n,ai p]] [.mp 0 0,zH zJ e .no,ai f,.mp 2 0] (.tup [.sl (zF xI x.1) x.1.length .no,ai x.2.1]) [mB M 1,mR M,.cells [ai x.2.2.1,ai x.2.2.2]] 0):=by
 have k:=zVj h
 rcases r with y0|y1
 ·exact k
 ·exact CT.freeze (H1:=[mB M 1,mR M,.cells [ai y1.2.2.1,ai y1.2.2.2]]) (cs:=zF xI y1.1) (res':=(.tup [.sl (zF xI y1.1) y1.1.length .no,ai y1.2.1])) k (Nat.le_of_ble_eq_true rfl) (vQ (lz rfl) (zA ⟨tv,tv,tv⟩ zB)) (xW _) ⟨(.inl ⟨rfl,rfl⟩),trivial,tv⟩ (by rfl) rfl
def oZ(v:Nat)(c d:yD)(e:xS)(f g:zU)(m n:Int)(a:List (List zK))(p u b q s t:Int):Option (yF×Int×Int×Int):=
 if p==0 then
 some ((yF.mk 0 0 0 [] [] [] []),q,s,t)
 else
 none
theorem fO{v c d e f g m n a p u b q s t r}(h:oZ v c d e f g m n a p u b q s t=some r):Ct 157 [.cells [.mp 1 0,.mp 3 0,.ms 4 0 a.length a.length 1,ai p,ai u,ai b],qB c 2 f g,qR d e,.cells [ai m,ai n],.row (zF (yO zI) a)] [.mp 0 0,ai q,ai s,ai t] (wD r.1) [.cells [.mp 1 0,.mp 3 0,.ms 4 0 a.length a.length 1,ai r.2.1,ai r.2.2.1,ai r.2.2.2],qB c 2 f g,qR d e,.cells [ai m,ai n],.row (zF (yO zI) a)] 0:=⟨by
 unfold oZ at h
 obtain⟨h1,h⟩:=xD h
 cases h
 exact tF ⟨func157,rfl⟩ 2 [0,1,2,3,4] (oD (zM ([]:List zY))<|oD (dT ([]:zW))<|oD (dT ([]:zW))<|oD (zE ([]:xN))<|oD ((yP zG) a)<|wS c d e f g<|oB 1 h1 o0),⟨(lz rfl),tv,tv,tv,tv⟩,(zA ⟨(lz rfl),(lz rfl),(lz rfl),tv,tv,tv,tv⟩ (vY (lz rfl) (zA ⟨tv,tv,tv⟩ (zA ((yP zG) _) zB)))),⟨tv,tv,tv,zE _,dT _,dT _,zM _,tv⟩,(zA ⟨(lz rfl),(lz rfl),(lz rfl),tv,tv,tv,tv⟩ (vQ (lz rfl) (zA ⟨tv,tv,tv⟩ (zA ((yP zG) _) zB))))⟩
def K4(p:Nat)(a b c e:Bool)(f g:Int)(d:zW)(m n:Nat):Option Bool:=
 if a then
 none
 else
 if b then
 none
 else
 some c
theorem zJd{p a b c e f g d m n r}(h:K4 p a b c e f g d m n=some r):Ct 339 [.cells [ab a,ab b,ab c,ab e,ai f,ai g,.ms 1 0 m n 3],.row (zF zC d)] [.mp 0 0] (ab r) [.cells [ab a,ab b,ab c,ab e,ai f,ai g,.ms 1 0 m n 3],.row (zF zC d)] 0:=⟨by
 unfold K4 at h
 obtain⟨h1,h⟩:=zT h
 have k:=oB 0 h1 o0
 obtain⟨h2,h⟩:=zT h
 obtain rfl:=sj h
 exact tF ⟨func339,rfl⟩ 1 [0,1] (oD (dT d)<|oB 0 h2 k),⟨(lz rfl),tv⟩,(zA ⟨tv,tv,tv,tv,tv,tv,(lz rfl),tv⟩ (zA (dT _) zB)),tv,(zA ⟨tv,tv,tv,tv,tv,tv,(lz rfl),tv⟩ (zA (dT _) zB))⟩
def kH(R:Nat)(v w:yD)(y:xS)(i A:zU)(D E:Int)(e:List (List zK))(F G a:Int)(H:xN)(B:zK)(T:Int)(U:zW)(S:Int)(K L M N:Bool)(P Q:Int)(aK aL:Nat)(J:zW):Option ((Bool×Bool×Bool×Bool×Int×Int×zW×Nat×Nat) ⊕ ((Bool×Bool×Bool×Int×Int×zW×Nat×Nat) ⊕ (Bool×Bool×Bool×Int×Int×zW×Nat×Nat))):=
 if decide (S<(B.sub_.length:Int))then
 none
 else
 some (.inl (K,L,M,N,P,Q,J,aL,aK))
def K5(R:Nat)(v w:yD)(y:xS)(i A:zU)(D E:Int)(e:List (List zK))(F G a:Int)(m g p q:Bool)(s t:Int)(d:zW)(f u:Nat)(H:xN)(B:zK)(I:Tm):Option ((Bool×Bool×Bool×Bool×Int×Int×zW×Nat×Nat) ⊕ ((Bool×Bool×Bool×Int×Int×zW×Nat×Nat) ⊕ (Bool×Bool×Bool×Int×Int×zW×Nat×Nat))):=
 K4 R m g p q s t d f u>>=fun r1=>
 if r1 then
 none
 else
 if B.kind_==3 then
 none
 else
 if B.kind_==1 then
 gfz f d>>=fun l6=>
 yV 40 l6 [(Tm.mk 0 0 [])]>>=fun l8=>
 uR l8.length (f:Int)>>=fun x10=>
 zCN l8 x10 I>>=fun x12=>
 some (.inl (m,g,p,q,s,t,x12,List.length l8,List.length l8))
 else
 if I.k==8 then
 zGo R H>>=fun r15=>
 zDo R r15 I.n>>=fun r17=>
 if r17 then
 some (.inr (.inl (m,g,(B.kind_==4),I.n,B.at_,d,f,u)))
 else
 none
 else
 zFS R (xR.mk v w y i A) I>>=fun r25=>
 if r25.2.2 then
 if B.kind_==4 then
 none
 else
 if r25.1 != B.n_ then
 some (.inr (.inr (g,p,q,s,t,d,f,u)))
 else
 kH R v w y i A D E e F G a H B r25.1 r25.2.1 0 m g p q s t u f d
 else
 none
section
variable (v w:yD) (y:xS) (i A:zU) (D E:Int) (e:List (List zK)) (F G a:Int) (m g p q:Bool) (s t:Int) (d:zW) (f u:Nat) (H:xN) (B:zK) (I:Tm)
abbrev iQ (r:Bool×Bool×Bool×Bool×Int×Int×zW×Nat×Nat) (C:Cf):Prop:=C 243 [.cells [.mp 1 0,.mp 3 0,.ms 4 0 e.length e.length 1,ai F,ai G,ai a],qB v 2 i A,qR w y,.cells [ai D,ai E],.row (zF (yO zI) e),.cells [ab m,ab g,ab p,ab q,ai s,ai t,.ms 6 0 f u 3],.row (zF zC d)] [.mp 0 0,.mp 5 0,zH zJ H .no,xZ B,xF I] (.tup []) [.cells [.mp 1 0,.mp 3 0,.ms 4 0 e.length e.length 1,ai F,ai G,ai a],qB v 2 i A,qR w y,.cells [ai D,ai E],.row (zF (yO zI) e),.cells [ab r.1,ab r.2.1,ab r.2.2.1,ab r.2.2.2.1,ai r.2.2.2.2.1,ai r.2.2.2.2.2.1,.ms 7 0 r.2.2.2.2.2.2.2.1 r.2.2.2.2.2.2.2.2 3],.dead,.row (zF zC r.2.2.2.2.2.2.1)] 0
abbrev iR (r:Bool×Bool×Bool×Int×Int×zW×Nat×Nat) (C:Cf):Prop:=C 243 [.cells [.mp 1 0,.mp 3 0,.ms 4 0 e.length e.length 1,ai F,ai G,ai a],qB v 2 i A,qR w y,.cells [ai D,ai E],.row (zF (yO zI) e),.cells [ab m,ab g,ab p,ab q,ai s,ai t,.ms 6 0 f u 3],.row (zF zC d)] [.mp 0 0,.mp 5 0,zH zJ H .no,xZ B,xF I] (.tup []) [.cells [.mp 1 0,.mp 3 0,.ms 4 0 e.length e.length 1,ai F,ai G,ai a],qB v 2 i A,qR w y,.cells [ai D,ai E],.row (zF (yO zI) e),.cells [ab r.1,ab r.2.1,ab true,ab r.2.2.1,ai r.2.2.2.1,ai r.2.2.2.2.1,.ms 7 0 r.2.2.2.2.2.2.1 r.2.2.2.2.2.2.2 3],.dead,.row (zF zC r.2.2.2.2.2.1)] 0
abbrev iS (r:Bool×Bool×Bool×Int×Int×zW×Nat×Nat) (C:Cf):Prop:=C 243 [.cells [.mp 1 0,.mp 3 0,.ms 4 0 e.length e.length 1,ai F,ai G,ai a],qB v 2 i A,qR w y,.cells [ai D,ai E],.row (zF (yO zI) e),.cells [ab m,ab g,ab p,ab q,ai s,ai t,.ms 6 0 f u 3],.row (zF zC d)] [.mp 0 0,.mp 5 0,zH zJ H .no,xZ B,xF I] (.tup []) [.cells [.mp 1 0,.mp 3 0,.ms 4 0 e.length e.length 1,ai F,ai G,ai a],qB v 2 i A,qR w y,.cells [ai D,ai E],.row (zF (yO zI) e),.cells [ab true,ab r.1,ab r.2.1,ab r.2.2.1,ai r.2.2.2.1,ai r.2.2.2.2.1,.ms 7 0 r.2.2.2.2.2.2.1 r.2.2.2.2.2.2.2 3],.dead,.row (zF zC r.2.2.2.2.2.1)] 0
end
theorem nA:Qf 243 f243:=⟨func243,rfl⟩
theorem K6{v w y i A D E e F G a m g p q s t d f u H B I r}(h:iQ v w y i A D E e F G a m g p q s t d f u H B I r Ci):iQ v w y i A D E e F G a m g p q s t d f u H B I r Ct:=⟨h,⟨(lz rfl),(lz rfl),⟨tv,zE _⟩,⟨tv,tv,tv,⟨tv,zX _⟩,tv,tv,⟨tv,dT _⟩,tv⟩,⟨tv,tv,⟨tv,dT _⟩,tv⟩,tv⟩,(zA ⟨(lz rfl),(lz rfl),(lz rfl),tv,tv,tv,tv⟩ (vY (lz rfl) (zA ⟨tv,tv,tv⟩ (zA ((yP zG) _) (zA ⟨tv,tv,tv,tv,tv,tv,(lz rfl),tv⟩ (zA (dT _) zB)))))),tv,(zA ⟨(lz rfl),(lz rfl),(lz rfl),tv,tv,tv,tv⟩ (vQ (lz rfl) (zA ⟨tv,tv,tv⟩ (zA ((yP zG) _) (zA ⟨tv,tv,tv,tv,tv,tv,(lz rfl),tv⟩ (zA tv (zA (dT _) zB)))))))⟩
theorem K7{v w y i A D E e F G a m g p q s t d f u H B I r}(h:iR v w y i A D E e F G a m g p q s t d f u H B I r Ci):iR v w y i A D E e F G a m g p q s t d f u H B I r Ct:=⟨h,⟨(lz rfl),(lz rfl),⟨tv,zE _⟩,⟨tv,tv,tv,⟨tv,zX _⟩,tv,tv,⟨tv,dT _⟩,tv⟩,⟨tv,tv,⟨tv,dT _⟩,tv⟩,tv⟩,(zA ⟨(lz rfl),(lz rfl),(lz rfl),tv,tv,tv,tv⟩ (vY (lz rfl) (zA ⟨tv,tv,tv⟩ (zA ((yP zG) _) (zA ⟨tv,tv,tv,tv,tv,tv,(lz rfl),tv⟩ (zA (dT _) zB)))))),tv,(zA ⟨(lz rfl),(lz rfl),(lz rfl),tv,tv,tv,tv⟩ (vQ (lz rfl) (zA ⟨tv,tv,tv⟩ (zA ((yP zG) _) (zA ⟨tv,tv,tv,tv,tv,tv,(lz rfl),tv⟩ (zA tv (zA (dT _) zB)))))))⟩
theorem K8{v w y i A D E e F G a m g p q s t d f u H B I r}(h:iS v w y i A D E e F G a m g p q s t d f u H B I r Ci):iS v w y i A D E e F G a m g p q s t d f u H B I r Ct:=⟨h,⟨(lz rfl),(lz rfl),⟨tv,zE _⟩,⟨tv,tv,tv,⟨tv,zX _⟩,tv,tv,⟨tv,dT _⟩,tv⟩,⟨tv,tv,⟨tv,dT _⟩,tv⟩,tv⟩,(zA ⟨(lz rfl),(lz rfl),(lz rfl),tv,tv,tv,tv⟩ (vY (lz rfl) (zA ⟨tv,tv,tv⟩ (zA ((yP zG) _) (zA ⟨tv,tv,tv,tv,tv,tv,(lz rfl),tv⟩ (zA (dT _) zB)))))),tv,(zA ⟨(lz rfl),(lz rfl),(lz rfl),tv,tv,tv,tv⟩ (vQ (lz rfl) (zA ⟨tv,tv,tv⟩ (zA ((yP zG) _) (zA ⟨tv,tv,tv,tv,tv,tv,(lz rfl),tv⟩ (zA tv (zA (dT _) zB)))))))⟩
theorem kI{R v w y i A D E e F G a H B T U S K L M N P Q aK aL J r}(h:kH R v w y i A D E e F G a H B T U S K L M N P Q aK aL J=some r):(∀j,dL 7 (pt 16744437 f243) (sp j 126 0 [(0,.mp 0 0),(1,.mp 5 0),(2,zH zJ H .no),(10,ai T),(11,zH zC U .no),(78,zH zI B.sub_ .no),(79,ai (B.sub_.length:Int)),(80,ai S)]) (⟨[(0,.cells [.mp 1 0,.mp 3 0,.ms 4 0 e.length e.length 1,ai F,ai G,ai a]),(1,qB v 2 i A),(2,qR w y),(3,.cells [ai D,ai E]),(4,.row (zF (yO zI) e)),(5,.cells [ab K,ab L,ab M,ab N,ai P,ai Q,.ms 7 0 aL aK 3]),(6,.dead),(7,.row (zF zC J))],8,[],0,[]⟩) (fQ 7 ((match (generalizing:=false) r with | .inl x=>nQ 7 f243 (.tup []) [.cells [.mp 1 0,.mp 3 0,.ms 4 0 e.length e.length 1,ai F,ai G,ai a],qB v 2 i A,qR w y,.cells [ai D,ai E],.row (zF (yO zI) e),.cells [ab x.1,ab x.2.1,ab x.2.2.1,ab x.2.2.2.1,ai x.2.2.2.2.1,ai x.2.2.2.2.2.1,.ms 7 0 x.2.2.2.2.2.2.2.1 x.2.2.2.2.2.2.2.2 3],.dead,.row (zF zC x.2.2.2.2.2.2.1)] 0 | .inr (.inl x)=>nQ 7 f243 (.tup []) [.cells [.mp 1 0,.mp 3 0,.ms 4 0 e.length e.length 1,ai F,ai G,ai a],qB v 2 i A,qR w y,.cells [ai D,ai E],.row (zF (yO zI) e),.cells [ab x.1,ab x.2.1,ab true,ab x.2.2.1,ai x.2.2.2.1,ai x.2.2.2.2.1,.ms 7 0 x.2.2.2.2.2.2.1 x.2.2.2.2.2.2.2 3],.dead,.row (zF zC x.2.2.2.2.2.1)] 0 | .inr (.inr x)=>nQ 7 f243 (.tup []) [.cells [.mp 1 0,.mp 3 0,.ms 4 0 e.length e.length 1,ai F,ai G,ai a],qB v 2 i A,qR w y,.cells [ai D,ai E],.row (zF (yO zI) e),.cells [ab true,ab x.1,ab x.2.1,ab x.2.2.1,ai x.2.2.2.1,ai x.2.2.2.2.1,.ms 7 0 x.2.2.2.2.2.2.1 x.2.2.2.2.2.2.2 3],.dead,.row (zF zC x.2.2.2.2.2.1)] 0)) [.blk 2,.blk 1])):=by
 unfold kH at h
 obtain⟨h25,h⟩:=zT h
 cases h
 exact fun j=>lF 0 [0,1,2,3,4,5,6,7] (oD (dT J)<|oD ((yP zG) e)<|wS v w y i A<|oB 0 h25 o0)
theorem K9{R v w y i A D E e F G a m g p q s t d f u H B I r}(h:K5 R v w y i A D E e F G a m g p q s t d f u H B I=some r):(match (generalizing:=false) r with | .inl x=>iQ v w y i A D E e F G a m g p q s t d f u H B I x Ct | .inr (.inl x)=>iR v w y i A D E e F G a m g p q s t d f u H B I x Ct | .inr (.inr x)=>iS v w y i A D E e F G a m g p q s t d f u H B I x Ct):=by
 unfold K5 at h
 obtain⟨r1,h2,h⟩:=zD h
 obtain⟨h3,h⟩:=zT h
 have k:=oK 0 [5,6] h3 (zJd h2) o0
 obtain⟨h4,h⟩:=zT h
 have k:=oB 1 h4 k
 obtain⟨h5,h⟩|⟨h5,h⟩:=xA h
 obtain⟨l6,h7,h⟩:=zD h
 obtain⟨l8,h9,h⟩:=zD h
 obtain⟨x10,h11,h⟩:=zD h
 obtain⟨x12,h13,h⟩:=zD h
 cases h
 exact K6 (tF nA 1 [0,1,2,3,4,5,6,9] (oD (dT x12)<|oD ((yP zG) e)<|wS v w y i A<|oW 0 (wtE (x:=I) (cs:=[ai I.k,ai I.n,zH zC I.sub .no]) xM (by rw[xU];rfl) h13)<|oA 0 (U6 (b:=9) (c:=List.length l8) (z:=3) h11)<|oM 0 (zOB h7 h9 (by simp))<|oS 3 (xL xU [(Tm.mk 0 0 [])])<|oB 1 h5 k))
 have k:=oB 1 h5 k
 obtain⟨h14,h⟩|⟨h14,h⟩:=xA h
 obtain⟨r15,h16,h⟩:=zD h
 obtain⟨r17,h18,h⟩:=zD h
 have k:=rF 0<|oC 0 [] (zBh h16)<|oB 1 h14 k
 obtain⟨h19,h⟩:=xD h
 cases h
 exact K7 (tG nA 8 [(some 6,0,0)] [0,1,2,3,4,5,6,9] [] false (oD (dT d)<|oD ((yP zG) e)<|wS v w y i A<|oK 0 [] h19 (zJx h18) k))
 obtain⟨r25,h26,h⟩:=zD h
 have k:=oC 2 [1,2] (zMo h26)<|oB 1 h14 k
 obtain⟨h27,h⟩:=xD h
 have k:=oB 2 h27 k
 obtain⟨h28,h⟩:=zT h
 have k:=oB 2 h28 k
 obtain⟨h29,h⟩|⟨h29,h⟩:=xA h
 cases h
 exact K8 (tG nA 1 [(some 6,0,0)] [0,1,2,3,4,5,6,9] [] false (oD (dT d)<|oD ((yP zG) e)<|wS v w y i A<|oB 1 h29 k))
 rcases r with y0 | (y1|y2)
 exact K6 (tH nA 2 [(some 6,0,0)] [0,1,2,3,4,5,6,9] [] [0,1,2,10,11,78,79,80] (oD (zX B.sub_)<|oD (dT r25.2.1)<|oD (zE H)<|oD (dT d)<|oD ((yP zG) e)<|wS v w y i A<|oB 1 h29 k) (kI h))
 exact K7 (tH nA 2 [(some 6,0,0)] [0,1,2,3,4,5,6,9] [] [0,1,2,10,11,78,79,80] (oD (zX B.sub_)<|oD (dT r25.2.1)<|oD (zE H)<|oD (dT d)<|oD ((yP zG) e)<|wS v w y i A<|oB 1 h29 k) (kI h))
 exact K8 (tH nA 2 [(some 6,0,0)] [0,1,2,3,4,5,6,9] [] [0,1,2,10,11,78,79,80] (oD (zX B.sub_)<|oD (dT r25.2.1)<|oD (zE H)<|oD (dT d)<|oD ((yP zG) e)<|wS v w y i A<|oB 1 h29 k) (kI h))
def tX:Nat->yD->yD->xS->zU->zU->Int->Int->(List (List zK))->Int->Int->Int->wJ->List zK->Int->Bool->Bool->Bool->Bool->Int->Int->Nat->Nat->zW->Option (Bool×Bool×Bool×Bool×Int×Int×zW×Nat×Nat)
 |0,_,_,_,_,_,_,_,_,_,_,_,_,_,_,_,_,_,_,_,_,_,_,_=>none
 |F+1,v,w,y,i,A,B,C,d,D,E,e,t,x3,u,g,m,n,p,q,s,jH,jI,f=>
 if decide (u<(x3.length:Int))then
 yG x3 u>>=fun x6=>
 yG t.args_ u>>=fun x8=>
 K5 F v w y i A B C d D E e g m n p q s f jI jH t.c_ x6 x8>>=fun r10=>
 match r10 with
 | .inl y12=>
  tX F v w y i A B C d D E e t x3 (xE (u+1)) y12.1 y12.2.1 y12.2.2.1 y12.2.2.2.1 y12.2.2.2.2.1 y12.2.2.2.2.2.1 y12.2.2.2.2.2.2.2.2 y12.2.2.2.2.2.2.2.1 y12.2.2.2.2.2.2.1
 | .inr (.inl y13)=>
  tX F v w y i A B C d D E e t x3 (xE (u+1)) y13.1 y13.2.1 true y13.2.2.1 y13.2.2.2.1 y13.2.2.2.2.1 y13.2.2.2.2.2.2.2 y13.2.2.2.2.2.2.1 y13.2.2.2.2.2.1
 | .inr (.inr y14)=>
  tX F v w y i A B C d D E e t x3 (xE (u+1)) true y14.1 y14.2.1 y14.2.2.1 y14.2.2.2.1 y14.2.2.2.2.1 y14.2.2.2.2.2.2.2 y14.2.2.2.2.2.2.1 y14.2.2.2.2.2.1
 else
 some (g,m,n,p,q,s,f,jI,jH)
def L0(F:Nat)(v w:yD)(y:xS)(i A:zU)(B C:Int)(d:List (List zK))(D E e:Int)(t:wJ)(G:Int):Option (Bool×Bool×Bool×Bool×Int×Int×zW×Nat×Nat):=
 uR d.length G>>=fun x1=>
 yG d (x1:Int)>>=fun x3=>
 tX F v w y i A B C d D E e t x3 0 false false false false 0 0 (List.length ([]:zW)) (List.length ([]:zW)) ([]:zW)
theorem zBF:∀F:Nat,(∀ {v w y i A B C d D E e t x3 u g m n p q s jH jI f r},tX F v w y i A B C d D E e t x3 u g m n p q s jH jI f=some r->(∀j,dL 5 (pt 4021 f158) (sp j 38 0 [(0,.mp 0 0),(4,.mp 5 0),(7,.mp 6 0),(18,zH zI x3 .no),(19,ai (x3.length:Int)),(20,ai u)]) (⟨[(0,.cells [.mp 1 0,.mp 3 0,.ms 4 0 d.length d.length 1,ai D,ai E,ai e]),(1,qB v 2 i A),(2,qR w y),(3,.cells [ai B,ai C]),(4,.row (zF (yO zI) d)),(5,.cells [zH zJ t.c_ .no,zH zC t.args_ .no]),(6,.cells [ab g,ab m,ab n,ab p,ai q,ai s,.ms 7 0 jI jH 3]),(7,.row (zF zC f))],8,[],0,[]⟩) (fQ 5 (nQ 5 f158 (.mp 5 0) [.cells [.mp 1 0,.mp 3 0,.ms 4 0 d.length d.length 1,ai D,ai E,ai e],qB v 2 i A,qR w y,.cells [ai B,ai C],.row (zF (yO zI) d),.cells [ab r.1,ab r.2.1,ab r.2.2.1,ab r.2.2.2.1,ai r.2.2.2.2.1,ai r.2.2.2.2.2.1,.ms 6 0 r.2.2.2.2.2.2.2.1 r.2.2.2.2.2.2.2.2 3],.row (zF zC r.2.2.2.2.2.2.1)] 0) [.blk 0,.seq (pt 63 f158)]))):=by
 intro F
 induction F with
 |zero=>
  exact fun h=>nn h
 |succ F ih=>
  intro v w y i A B C d D E e t x3 u g m n p q s jH jI f r h
  rw[tX]at h
  obtain⟨h5,h⟩|⟨h5,h⟩:=xA h
  obtain⟨x6,h7,h⟩:=zD h
  obtain⟨x8,h9,h⟩:=zD h
  obtain⟨r10,h11,h⟩:=zD h
  have k:=oA 5 (wN (o:=.no) h9)<|oA 0 (lZ (o:=.no) h7)<|oB 0 h5 o0
  rcases r10 with y12 | (y13|y14)
  dsimp only at h
  exact fun j=>lH 1 [] [0,1,2,3,4,5,6,9] [] [0,4,7,18,19,20] (oD (zX x3)<|oD (dT y12.2.2.2.2.2.2.1)<|oD (dT t.args_)<|oD (zE t.c_)<|oD ((yP zG) d)<|wS v w y i A<|oC 1 [0,1,2,3,4,6,7] (K9 h11) k) (ih h)
  dsimp only at h
  exact fun j=>lH 1 [] [0,1,2,3,4,5,6,9] [] [0,4,7,18,19,20] (oD (zX x3)<|oD (dT y13.2.2.2.2.2.1)<|oD (dT t.args_)<|oD (zE t.c_)<|oD ((yP zG) d)<|wS v w y i A<|oC 1 [0,1,2,3,4,6,7] (K9 h11) k) (ih h)
  dsimp only at h
  exact fun j=>lH 1 [] [0,1,2,3,4,5,6,9] [] [0,4,7,18,19,20] (oD (zX x3)<|oD (dT y14.2.2.2.2.2.1)<|oD (dT t.args_)<|oD (zE t.c_)<|oD ((yP zG) d)<|wS v w y i A<|oC 1 [0,1,2,3,4,6,7] (K9 h11) k) (ih h)
  cases h
  exact fun j=>lF 0 [0,1,2,3,4,6,7] (oD (dT f)<|oD ((yP zG) d)<|wS v w y i A<|oB 0 h5 o0)
theorem zJc{F v w y i A B C d D E e t G r}(h:L0 F v w y i A B C d D E e t G=some r):Ct 158 [.cells [.mp 1 0,.mp 3 0,.ms 4 0 d.length d.length 1,ai D,ai E,ai e],qB v 2 i A,qR w y,.cells [ai B,ai C],.row (zF (yO zI) d)] [.mp 0 0,rG t,ai G] (.mp 5 0) [.cells [.mp 1 0,.mp 3 0,.ms 4 0 d.length d.length 1,ai D,ai E,ai e],qB v 2 i A,qR w y,.cells [ai B,ai C],.row (zF (yO zI) d),.cells [ab r.1,ab r.2.1,ab r.2.2.1,ab r.2.2.2.1,ai r.2.2.2.2.1,ai r.2.2.2.2.2.1,.ms 6 0 r.2.2.2.2.2.2.2.1 r.2.2.2.2.2.2.2.2 3],.row (zF zC r.2.2.2.2.2.2.1)] 0:=⟨by
 unfold L0 at h
 obtain⟨x1,h2,h⟩:=zD h
 obtain⟨x3,h4,h⟩:=zD h
 exact tH ⟨func158,rfl⟩ 1 [(some 6,6,4099)] [0,1,2,3,4,5,6,7] [] [0,4,7,18,19,20] (oD (zX x3)<|oD (dT ([]:zW))<|oD (dT t.args_)<|oD (zE t.c_)<|oD ((yP zG) d)<|wS v w y i A<|oG (a:=(zH zI x3 .no)) 0 (U1 (xQ zG) h4 (false,1) (val:=zH zI x3 .no) rfl)<|oA 1 (U7 (b:=4) (c:=List.length d) (z:=1) h2) o0) (zBF _ h),⟨(lz rfl),⟨⟨tv,zE _⟩,⟨tv,dT _⟩,tv⟩,tv,tv⟩,(zA ⟨(lz rfl),(lz rfl),(lz rfl),tv,tv,tv,tv⟩ (vY (lz rfl) (zA ⟨tv,tv,tv⟩ (zA ((yP zG) _) zB)))),(lz rfl),(zA ⟨(lz rfl),(lz rfl),(lz rfl),tv,tv,tv,tv⟩ (vQ (lz rfl) (zA ⟨tv,tv,tv⟩ (zA ((yP zG) _) (zA ⟨tv,tv,tv,tv,tv,tv,(lz rfl),tv⟩ (zA (dT _) zB))))))⟩
def zRm(b:Nat)(a:yY):Option Bool:=
 some a.yes_
theorem zYm{b a r}(h:zRm b a=some r):Ct 343 [] [rO a] (ab r) [] 0:=⟨by
 unfold zRm at h
 obtain rfl:=sj h
 exact tF ⟨func343,rfl⟩ 1 [] (o0),⟨⟨tv,tv,⟨tv,dI _⟩,⟨tv,zE _⟩,⟨tv,yB _⟩,tv⟩,tv⟩,zB,tv,zB⟩
def kJ(b:Nat)(a:List yY)(c:Int):Option Int:=
 if decide (c<(a.length:Int))then
 yG a c>>=fun x2=>
 zRm b x2>>=fun r4=>
 if r4 then
 some c
 else
 none
 else
 none
def L1(b:Nat)(a:List yY):Option Int:=
 kJ b a 0
theorem zBG{b a c r}(h:kJ b a c=some r):(∀j,dL 0 (pt 949 f409) (sp j 19 0 [(0,zH xI a .no),(1,.clo 343 [] []),(7,ai (a.length:Int)),(8,ai c)]) (⟨[],0,[],0,[]⟩) (fQ 0 (nQ 0 f409 (ai r) [] 0) [.blk 0,.seq (pt 15 f409)])):=by
 unfold kJ at h
 obtain⟨h1,h⟩:=xD h
 obtain⟨x2,h3,h⟩:=zD h
 obtain⟨r4,h5,h⟩:=zD h
 have k:=oA 0 (zNQ (o:=.no) h3)<|oB 0 h1 o0
 obtain⟨h6,h⟩:=xD h
 obtain rfl:=sj h
 exact fun j=>lF 0 [] (oK 1 [] h6 (zYm h5) k)
theorem zJb{b a r}(h:L1 b a=some r):Ct 409 [] [zH xI a .no,.clo 343 [] []] (ai r) [] 0:=⟨by
 unfold L1 at h
 exact tH ⟨func409,rfl⟩ 1 [] [] [] [0,1,7,8] (oD (xW a) o0) (zBG h),⟨⟨tv,xW _⟩,⟨tv,tv⟩,tv⟩,zB,tv,zB⟩
def fP(b:Nat)(a:List yY):Option Bool:=
 L1 b a>>=fun r1=>
 some (decide (r1≥0))
theorem zBH{b a r}(h:fP b a=some r):Ct 342 [] [zH xI a .no,.clo 343 [] []] (ab r) [] 0:=⟨by
 unfold fP at h
 obtain⟨r1,h2,h⟩:=zD h
 cases h
 exact tF ⟨func342,rfl⟩ 1 [] (oC 0 [] (zJb h2) o0),⟨⟨tv,xW _⟩,⟨tv,tv⟩,tv⟩,zB,tv,zB⟩
def zRl(a:Nat)(M:xR)(b:xN)(c d e:Int):Option (Bool×Int×Int×Int):=
 zJe a M b c d e>>=fun r1=>
 match r1 with
 | .inl y3=>
  if y3.2.1 != 0 then
  none
  else
  fP a y3.1>>=fun r5=>
  some (!r5,0,y3.2.2.1,y3.2.2.2)
 | .inr y7=>
  if y7.2.1 != 0 then
  none
  else
  fP a y7.1>>=fun r9=>
  some (!r9,0,y7.2.2.1,y7.2.2.2)
theorem zVi:Qf 244 f244:=⟨func244,rfl⟩
theorem zYl{a M b c d e r}(h:zRl a M b c d e=some r):Ct 244 [mB M 1,mR M,.cells [ai d,ai e]] [.mp 0 0,zH zJ b .no,ai c,.mp 2 0] (.tup [ab r.1,ai r.2.1]) [mB M 1,mR M,.cells [ai r.2.2.1,ai r.2.2.2]] 0:=⟨by
 unfold zRl at h
 obtain⟨r1,h2,h⟩:=zD h
 rcases r1 with y3|y7
 dsimp only at h
 have k:=oC 0 [0,1,2] (zNy h2) o0
 obtain⟨h4,h⟩:=zT h
 obtain⟨r5,h6,h⟩:=zD h
 cases h
 exact tF zVi 1 [0,1,2] (tB M<|oC 0 [] (zBH h6)<|oB 2 h4 k)
 dsimp only at h
 have k:=oC 0 [0,1,2] (zNy h2) o0
 obtain⟨h8,h⟩:=zT h
 obtain⟨r9,h10,h⟩:=zD h
 cases h
 exact tF zVi 1 [0,1,2] (tB M<|oC 0 [] (zBH h10)<|oB 2 h8 k),⟨(lz rfl),⟨tv,zE _⟩,tv,(lz rfl),tv⟩,(vY (lz rfl) (zA ⟨tv,tv,tv⟩ zB)),⟨tv,tv,tv⟩,(vQ (lz rfl) (zA ⟨tv,tv,tv⟩ zB))⟩
def L2(y:Nat)(s t:yD)(u:xS)(v w:zU)(z i:Int)(d:List (List zK))(j A e:Int)(B:wJ)(f g m n:Bool)(a b:Int)(c:zW)(p q:Nat)(C:Int):Option (yF×Int×Int×Int×Int×Int):=
 zRl y (xR.mk s t u v w) B.c_ a z i>>=fun r1=>
 if r1.1 then
 none
 else
 if r1.2.1 != 0 then
 none
 else
 oZ y s t u v w r1.2.2.1 r1.2.2.2 d j A e 17 C b>>=fun r10=>
 some (r10.1,r10.2.1,r10.2.2.1,r10.2.2.2,r1.2.2.1,r1.2.2.2)
theorem zJa{y s t u v w z i d j A e B f g m n a b c p q C r}(h:L2 y s t u v w z i d j A e B f g m n a b c p q C=some r):Ct 159 [.cells [.mp 1 0,.mp 3 0,.ms 4 0 d.length d.length 1,ai j,ai A,ai e],qB s 2 v w,qR t u,.cells [ai z,ai i],.row (zF (yO zI) d),.cells [ab f,ab g,ab m,ab n,ai a,ai b,.ms 6 0 p q 3],.row (zF zC c)] [.mp 0 0,rG B,.mp 5 0,ai C] (wD r.1) [.cells [.mp 1 0,.mp 3 0,.ms 4 0 d.length d.length 1,ai r.2.1,ai r.2.2.1,ai r.2.2.2.1],qB s 2 v w,qR t u,.cells [ai r.2.2.2.2.1,ai r.2.2.2.2.2],.row (zF (yO zI) d),.cells [ab f,ab g,ab m,ab n,ai a,ai b,.ms 6 0 p q 3],.row (zF zC c)] 0:=⟨by
 unfold L2 at h
 obtain⟨r1,h2,h⟩:=zD h
 have k:=oC 4 [1,2,3] (zYl h2) o0
 obtain⟨h3,h⟩:=zT h
 have k:=oB 0 h3 k
 obtain⟨h7,h⟩:=zT h
 obtain⟨r10,h11,h⟩:=zD h
 cases h
 exact tF ⟨func159,rfl⟩ 1 [0,1,2,3,4,5,6] (oD (zM r10.1.kids_)<|oD (dT r10.1.args_)<|oD (dT r10.1.binds_)<|oD (zE r10.1.vars_)<|oD (dT c)<|oD ((yP zG) d)<|wS s t u v w<|oC 2 [0,1,2,3,4] (fO h11)<|oB 1 h7 k),⟨(lz rfl),⟨⟨tv,zE _⟩,⟨tv,dT _⟩,tv⟩,(lz rfl),tv,tv⟩,(zA ⟨(lz rfl),(lz rfl),(lz rfl),tv,tv,tv,tv⟩ (vY (lz rfl) (zA ⟨tv,tv,tv⟩ (zA ((yP zG) _) (zA ⟨tv,tv,tv,tv,tv,tv,(lz rfl),tv⟩ (zA (dT _) zB)))))),⟨tv,tv,tv,zE _,dT _,dT _,zM _,tv⟩,(zA ⟨(lz rfl),(lz rfl),(lz rfl),tv,tv,tv,tv⟩ (vQ (lz rfl) (zA ⟨tv,tv,tv⟩ (zA ((yP zG) _) (zA ⟨tv,tv,tv,tv,tv,tv,(lz rfl),tv⟩ (zA (dT _) zB))))))⟩
def aM:Nat->xN->xN->Int->Option xN
 |0,_,_,_=>none
 |b+1,a,c,d=>
 if decide (d<(a.length:Int))then
 yG a d>>=fun x2=>
 e92 b x2.type_>>=fun r4=>
 yV 48 c [(wI.mk x2.n_ r4)]>>=fun l6=>
 aM b a l6 (xE (d+1))
 else
 some c
def zRk(b:Nat)(a:xN):Option xN:=
 aM b a [] 0
theorem zNx:∀b:Nat,(∀ {a c d r},aM b a c d=some r->(∀j,dL 0 (pt 4021 f161) (sp j 23 0 [(3,zH zJ c (.st 0 4)),(6,zH zJ a .no),(7,ai (a.length:Int)),(8,ai d)]) (⟨[],0,[0],1,[]⟩) (fQ 0 (nQ 0 f161 (.sl (zF zJ r) r.length .no) [] 0) [.blk 0,.seq (pt 63 f161)]))):=by
 intro b
 induction b with
 |zero=>
  exact fun h=>nn h
 |succ b ih=>
  intro a c d r h
  rw[aM]at h
  obtain⟨h1,h⟩|⟨h1,h⟩:=xA h
  obtain⟨x2,h3,h⟩:=zD h
  obtain⟨r4,h5,h⟩:=zD h
  obtain⟨l6,h7,h⟩:=zD h
  exact fun j=>lH 1 [] [] [1] [3,6,7,8] (oD (zE a)<|oD (zE l6)<|oP 1 (zAb h7 (by simp))<|oC 1 [] (c92 h5)<|rF 2<|oA 0 (gX (o:=.no) h3)<|oB 0 h1 o0) (ih h)
  obtain rfl:=sj h
  exact fun j=>lF 0 [] (oD (zE c)<|oB 0 h1 o0)
theorem zYk{b a r}(h:zRk b a=some r):Ct 161 [] [zH zJ a .no] (.sl (zF zJ r) r.length .no) [] 0:=⟨by
 unfold zRk at h
 exact tH ⟨func161,rfl⟩ 1 [(none,3,4)] [] [0] [3,6,7,8] (oD (zE a)<|oD (zE ([]:xN)) o0) (zNx _ h),⟨⟨tv,zE _⟩,tv⟩,zB,zE _,zB⟩
def aN:Nat->zW->zW->Int->Option zW
 |0,_,_,_=>none
 |b+1,a,c,d=>
 if decide (d<(a.length:Int))then
 yG a d>>=fun x2=>
 e92 b x2>>=fun r4=>
 yV 40 c [r4]>>=fun l6=>
 aN b a l6 (xE (d+1))
 else
 some c
def zRj(b:Nat)(a:zW):Option zW:=
 aN b a [] 0
theorem zNw:∀b:Nat,(∀ {a c d r},aN b a c d=some r->(∀j,dL 0 (pt 4021 f162) (sp j 19 0 [(3,zH zC c (.st 0 3)),(6,zH zC a .no),(7,ai (a.length:Int)),(8,ai d)]) (⟨[],0,[0],1,[]⟩) (fQ 0 (nQ 0 f162 (.sl (zF zC r) r.length .no) [] 0) [.blk 0,.seq (pt 63 f162)]))):=by
 intro b
 induction b with
 |zero=>
  exact fun h=>nn h
 |succ b ih=>
  intro a c d r h
  rw[aN]at h
  obtain⟨h1,h⟩|⟨h1,h⟩:=xA h
  obtain⟨x2,h3,h⟩:=zD h
  obtain⟨r4,h5,h⟩:=zD h
  obtain⟨l6,h7,h⟩:=zD h
  exact fun j=>lH 1 [] [] [1] [3,6,7,8] (oD (dT a)<|oD (dT l6)<|oP 0 (vO h7 (by simp))<|oS 0 (xL xU [r4])<|oC 3 [] (c92 h5)<|oA 0 (wN (o:=.no) h3)<|oB 0 h1 o0) (ih h)
  obtain rfl:=sj h
  exact fun j=>lF 0 [] (oD (dT c)<|oB 0 h1 o0)
theorem zYj{b a r}(h:zRj b a=some r):Ct 162 [] [zH zC a .no] (.sl (zF zC r) r.length .no) [] 0:=⟨by
 unfold zRj at h
 exact tH ⟨func162,rfl⟩ 1 [(none,3,3)] [] [0] [3,6,7,8] (oD (dT a)<|oD (dT ([]:zW)) o0) (zNw _ h),⟨⟨tv,dT _⟩,tv⟩,zB,dT _,zB⟩
def pA:Nat->zW->Nat->Nat->zW->Int->Option zW
 |0,_,_,_,_,_=>none
 |f+1,d,e,g,m,p=>
 if decide (p<(e:Int))then
 uR e p>>=fun x2=>
 yG d (x2:Int)>>=fun x4=>
 e92 f x4>>=fun r6=>
 yV 40 m [r6]>>=fun l8=>
 pA f d e g l8 (xE (p+1))
 else
 some m
def L4(f:Nat)(d:zW)(e g:Nat):Option zW:=
 pA f d e g [] 0
theorem zBI:∀f:Nat,(∀ {d e g m p r},pA f d e g m p=some r->(∀j,dL 1 (pt 4021 f162) (sp j 19 0 [(3,zH zC m (.st 0 3)),(6,.ms 0 0 e g 3),(7,ai (e:Int)),(8,ai p)]) (⟨[(0,.row (zF zC d))],1,[0],1,[]⟩) (fQ 1 (nQ 1 f162 (.sl (zF zC r) r.length .no) [.row (zF zC d)] 0) [.blk 0,.seq (pt 63 f162)]))):=by
 intro f
 induction f with
 |zero=>
  exact fun h=>nn h
 |succ f ih=>
  intro d e g m p r h
  rw[pA]at h
  obtain⟨h1,h⟩|⟨h1,h⟩:=xA h
  obtain⟨x2,h3,h⟩:=zD h
  obtain⟨x4,h5,h⟩:=zD h
  obtain⟨r6,h7,h⟩:=zD h
  obtain⟨l8,h9,h⟩:=zD h
  exact fun j=>lH 1 [] [0] [1] [3,6,7,8] (oD (dT l8)<|oD (dT d)<|oP 0 (vO h9 (by simp))<|oS 0 (xL xU [r6])<|oC 2 [] (c92 h7)<|oG (a:=(.agg [ai x4.k,ai x4.n,zH zC x4.sub .no])) 0 (U1 xM h5 (true,3) (val:=.agg [ai x4.k,ai x4.n,zH zC x4.sub .no]) (by rw[xU];rfl))<|oA 0 (U6 (b:=0) (c:=g) (z:=3) h3)<|oB 0 h1 o0) (ih h)
  obtain rfl:=sj h
  exact fun j=>lF 0 [0] (oD (dT m)<|oD (dT d)<|oB 0 h1 o0)
theorem zJA{f d e g r}(h:L4 f d e g=some r):Ct 162 [.row (zF zC d)] [.ms 0 0 e g 3] (.sl (zF zC r) r.length .no) [.row (zF zC d)] 0:=⟨by
 unfold L4 at h
 exact tH ⟨func162,rfl⟩ 1 [(none,3,3)] [0] [0] [3,6,7,8] (oD (dT ([]:zW))<|oD (dT d) o0) (zBI _ h),⟨(lz rfl),tv⟩,(zA (dT _) zB),dT _,(zA (dT _) zB)⟩
mutual
def fR:Nat->yD->yD->xS->zU->zU->Int->Int->(List (List zK))->Int->Int->Int->wJ->Option (yF×Int×Int×Int×Int×Int)
 |0,_,_,_,_,_,_,_,_,_,_,_,_=>none
 |D+1,c,d,e,f,g,E,F,a,q,s,b,m=>
 zAZ D E F>>=fun r1=>
 if r1.1 != 0 then
 none
 else
 nZ D c d e f g a q s b m r1 0
 termination_by structural n=>n
def nZ:Nat->yD->yD->xS->zU->zU->(List (List zK))->Int->Int->Int->wJ->(Int×Int×Int)->Int->Option (yF×Int×Int×Int×Int×Int)
 |0,_,_,_,_,_,_,_,_,_,_,_,_=>none
 |D+1,c,d,e,f,g,a,q,s,b,m,r1,P=>
 if decide (P<(a.length:Int))then
 L0 D c d e f g r1.2.1 r1.2.2 a q s b m P>>=fun r7=>
 if r7.1 then
 nZ D c d e f g a q s b m r1 (xE (P+1))
 else
 if r7.2.1 then
 none
 else
 if r7.2.2.1 then
 if r7.2.2.2.1 then
 L2 D c d e f g r1.2.1 r1.2.2 a q s b m r7.1 r7.2.1 r7.2.2.1 r7.2.2.2.1 r7.2.2.2.2.1 r7.2.2.2.2.2.1 r7.2.2.2.2.2.2.1 r7.2.2.2.2.2.2.2.1 r7.2.2.2.2.2.2.2.2 P>>=fun r15=>
 some (r15.1,r15.2.1,r15.2.2.1,r15.2.2.2.1,r15.2.2.2.2.1,r15.2.2.2.2.2)
 else
 L5 D c d e f g r1.2.1 r1.2.2 a q s b m r7.1 r7.2.1 r7.2.2.1 r7.2.2.2.1 r7.2.2.2.2.1 r7.2.2.2.2.2.1 r7.2.2.2.2.2.2.1 r7.2.2.2.2.2.2.2.1 r7.2.2.2.2.2.2.2.2 P>>=fun r17=>
 some (r17.1,r17.2.1,r17.2.2.1,r17.2.2.2.1,r17.2.2.2.2.1,r17.2.2.2.2.2)
 else
 zRk D m.c_>>=fun r19=>
 L4 D r7.2.2.2.2.2.2.1 r7.2.2.2.2.2.2.2.1 r7.2.2.2.2.2.2.2.2>>=fun r21=>
 zRj D m.args_>>=fun r23=>
 some ((yF.mk 1 P 0 r19 r21 r23 []),q,s,b,r1.2.1,r1.2.2)
 else
 oZ D c d e f g r1.2.1 r1.2.2 a q s b 10 (-1) 0>>=fun r25=>
 some (r25.1,r25.2.1,r25.2.2.1,r25.2.2.2,r1.2.1,r1.2.2)
 termination_by structural n=>n
def L5:Nat->yD->yD->xS->zU->zU->Int->Int->(List (List zK))->Int->Int->Int->wJ->Bool->Bool->Bool->Bool->Int->Int->zW->Nat->Nat->Int->Option (yF×Int×Int×Int×Int×Int)
 |0,_,_,_,_,_,_,_,_,_,_,_,_,_,_,_,_,_,_,_,_,_,_=>none
 |D+1,c,d,e,f,g,E,F,a,q,s,b,m,w,y,z,i,u,t,p,A,B,G=>
 zJe D (xR.mk c d e f g) m.c_ u E F>>=fun r1=>
 match r1 with
 | .inl y3=>
  if y3.2.1 != 0 then
  oZ D c d e f g y3.2.2.1 y3.2.2.2 a q s b y3.2.1 G t>>=fun r5=>
  some (r5.1,r5.2.1,r5.2.2.1,r5.2.2.2,y3.2.2.1,y3.2.2.2)
  else
  rH D c d e f g a m w y z i u t p A B G y3.1 (y3.1.length:Int) 0 q s b y3.2.2.1 y3.2.2.2 []
 | .inr y7=>
  if y7.2.1 != 0 then
  oZ D c d e f g y7.2.2.1 y7.2.2.2 a q s b y7.2.1 G t>>=fun r9=>
  some (r9.1,r9.2.1,r9.2.2.1,r9.2.2.2,y7.2.2.1,y7.2.2.2)
  else
  rH D c d e f g a m w y z i u t p A B G y7.1 (y7.1.length:Int) 0 q s b y7.2.2.1 y7.2.2.2 []
 termination_by structural n=>n
def rH:Nat->yD->yD->xS->zU->zU->(List (List zK))->wJ->Bool->Bool->Bool->Bool->Int->Int->zW->Nat->Nat->Int->List yY->Int->Int->Int->Int->Int->Int->Int->List zY->Option (yF×Int×Int×Int×Int×Int)
 |0,_,_,_,_,_,_,_,_,_,_,_,_,_,_,_,_,_,_,_,_,_,_,_,_,_,_=>none
 |D+1,c,d,e,f,g,a,m,w,y,z,i,u,t,p,A,B,G,Q,T,R,I,J,K,L,M,N=>
 if decide (R<T)then
 yG Q R>>=fun x8=>
 L6 D c d e f g L M a I J K m x8 G t>>=fun r10=>
 yV 184 N [r10.1]>>=fun l12=>
 if r10.2.1 != 0 then
 some ((yF.mk 0 0 0 [] [] [] []),r10.2.1,r10.2.2.1,r10.2.2.2.1,r10.2.2.2.2.1,r10.2.2.2.2.2)
 else
 rH D c d e f g a m w y z i u t p A B G Q T (xE (R+1)) r10.2.1 r10.2.2.1 r10.2.2.2.1 r10.2.2.2.2.1 r10.2.2.2.2.2 l12
 else
 none
 termination_by structural n=>n
def L6:Nat->yD->yD->xS->zU->zU->Int->Int->(List (List zK))->Int->Int->Int->wJ->yY->Int->Int->Option (zY×Int×Int×Int×Int×Int)
 |0,_,_,_,_,_,_,_,_,_,_,_,_,_,_,_=>none
 |D+1,c,d,e,f,g,E,F,a,q,s,b,m,v,G,U=>
 if v.yes_ then
 pB D c d e f g E F a q s b m v G U 0 []
 else
 none
 termination_by structural n=>n
def pB:Nat->yD->yD->xS->zU->zU->Int->Int->(List (List zK))->Int->Int->Int->wJ->yY->Int->Int->Int->zW->Option (zY×Int×Int×Int×Int×Int)
 |0,_,_,_,_,_,_,_,_,_,_,_,_,_,_,_,_,_=>none
 |D+1,c,d,e,f,g,E,F,a,q,s,b,m,v,G,U,S,H=>
 if decide (S<(m.args_.length:Int))then
 yG m.args_ S>>=fun x3=>
 zMP D v.solved_ x3>>=fun r5=>
 if r5.2 != 0 then
 none
 else
 yV 40 H [r5.1]>>=fun l10=>
 pB D c d e f g E F a q s b m v G U (xE (S+1)) l10
 else
 fR D c d e f g E F a q s b (wJ.mk v.vars_ H)>>=fun r12=>
 some ((zY.mk v.con_ v.yes_ v.args_ v.solved_ r12.1),r12.2.1,r12.2.2.1,r12.2.2.2.1,r12.2.2.2.2.1,r12.2.2.2.2.2)
 termination_by structural n=>n
end
abbrev zEF (c d:yD) (e:xS) (f g:zU) (E F:Int) (a:List (List zK)) (q s b:Int) (m:wJ) (r:yF×Int×Int×Int×Int×Int) (C:Cf):Prop:=C 98 [.cells [.mp 1 0,.mp 3 0,.ms 4 0 a.length a.length 1,ai q,ai s,ai b],qB c 2 f g,qR d e,.cells [ai E,ai F],.row (zF (yO zI) a)] [.mp 0 0,rG m] (wD r.1) [.cells [.mp 1 0,.mp 3 0,.ms 4 0 a.length a.length 1,ai r.2.1,ai r.2.2.1,ai r.2.2.2.1],qB c 2 f g,qR d e,.cells [ai r.2.2.2.2.1,ai r.2.2.2.2.2],.row (zF (yO zI) a)] 0
abbrev L7 (c d:yD) (e:xS) (f g:zU) (E F:Int) (a:List (List zK)) (q s b:Int) (m:wJ) (w y z i:Bool) (u t:Int) (p:zW) (A B:Nat) (G:Int) (r:yF×Int×Int×Int×Int×Int) (C:Cf):Prop:=C 160 [.cells [.mp 1 0,.mp 3 0,.ms 4 0 a.length a.length 1,ai q,ai s,ai b],qB c 2 f g,qR d e,.cells [ai E,ai F],.row (zF (yO zI) a),.cells [ab w,ab y,ab z,ab i,ai u,ai t,.ms 6 0 A B 3],.row (zF zC p)] [.mp 0 0,rG m,.mp 5 0,ai G] (wD r.1) [.cells [.mp 1 0,.mp 3 0,.ms 4 0 a.length a.length 1,ai r.2.1,ai r.2.2.1,ai r.2.2.2.1],qB c 2 f g,qR d e,.cells [ai r.2.2.2.2.1,ai r.2.2.2.2.2],.row (zF (yO zI) a),.cells [ab w,ab y,ab z,ab i,ai u,ai t,.ms 6 0 A B 3],.row (zF zC p)] 0
abbrev zJB (c d:yD) (e:xS) (f g:zU) (E F:Int) (a:List (List zK)) (q s b:Int) (m:wJ) (v:yY) (G U:Int) (r:zY×Int×Int×Int×Int×Int) (C:Cf):Prop:=C 245 [.cells [.mp 1 0,.mp 3 0,.ms 4 0 a.length a.length 1,ai q,ai s,ai b],qB c 2 f g,qR d e,.cells [ai E,ai F],.row (zF (yO zI) a)] [.mp 0 0,rG m,rO v,ai G,ai U] (U3 r.1) [.cells [.mp 1 0,.mp 3 0,.ms 4 0 a.length a.length 1,ai r.2.1,ai r.2.2.1,ai r.2.2.2.1],qB c 2 f g,qR d e,.cells [ai r.2.2.2.2.1,ai r.2.2.2.2.2],.row (zF (yO zI) a)] 0
theorem fS:Qf 160 f160:=⟨func160,rfl⟩
theorem fT{c d e f g E F a q s b m w y z i u t p A B G r}(h:L7 c d e f g E F a q s b m w y z i u t p A B G r Ci):L7 c d e f g E F a q s b m w y z i u t p A B G r Ct:=⟨h,⟨(lz rfl),⟨⟨tv,zE _⟩,⟨tv,dT _⟩,tv⟩,(lz rfl),tv,tv⟩,(zA ⟨(lz rfl),(lz rfl),(lz rfl),tv,tv,tv,tv⟩ (vY (lz rfl) (zA ⟨tv,tv,tv⟩ (zA ((yP zG) _) (zA ⟨tv,tv,tv,tv,tv,tv,(lz rfl),tv⟩ (zA (dT _) zB)))))),⟨tv,tv,tv,zE _,dT _,dT _,zM _,tv⟩,(zA ⟨(lz rfl),(lz rfl),(lz rfl),tv,tv,tv,tv⟩ (vQ (lz rfl) (zA ⟨tv,tv,tv⟩ (zA ((yP zG) _) (zA ⟨tv,tv,tv,tv,tv,tv,(lz rfl),tv⟩ (zA (dT _) zB))))))⟩
theorem vG:∀D:Nat,(∀ {c d e f g E F a q s b m r},fR D c d e f g E F a q s b m=some r->zEF c d e f g E F a q s b m r Ct)∧(∀ {c d e f g a q s b m r1 P r},nZ D c d e f g a q s b m r1 P=some r->(∀j,dL 5 (pt 4021 f98) (sp j 89 0 [(0,.mp 0 0),(3,.mp 5 0),(4,.mp 6 0),(22,ai (a.length:Int)),(23,ai P)]) (⟨[(0,.cells [.mp 1 0,.mp 3 0,.ms 4 0 a.length a.length 1,ai q,ai s,ai b]),(1,qB c 2 f g),(2,qR d e),(3,.cells [ai r1.2.1,ai r1.2.2]),(4,.row (zF (yO zI) a)),(5,.cells [zH zJ m.c_ .no,zH zC m.args_ .no]),(6,.cells [ai 0,ai 0,ai 0,zH zJ ([]:xN) .nl,zH zC ([]:zW) .nl,zH zC ([]:zW) .nl,zH zV ([]:List zY) .nl])],7,[],0,[]⟩) (fQ 5 (nQ 5 f98 (wD r.1) [.cells [.mp 1 0,.mp 3 0,.ms 4 0 a.length a.length 1,ai r.2.1,ai r.2.2.1,ai r.2.2.2.1],qB c 2 f g,qR d e,.cells [ai r.2.2.2.2.1,ai r.2.2.2.2.2],.row (zF (yO zI) a)] 0) [.blk 0,.seq (pt 63 f98)])))∧(∀ {c d e f g E F a q s b m w y z i u t p A B G r},L5 D c d e f g E F a q s b m w y z i u t p A B G=some r->L7 c d e f g E F a q s b m w y z i u t p A B G r Ct)∧(∀ {c d e f g a m w y z i u t p A B G Q T R I J K L M N r},rH D c d e f g a m w y z i u t p A B G Q T R I J K L M N=some r->(∀j,dL 7 (pt 65461 f160) (sp j 76 0 [(0,.mp 0 0),(2,.mp 5 0),(3,ai G),(5,.mp 7 0),(8,.mp 8 0),(11,.mp 9 0),(47,zH xI Q .no),(48,ai T),(49,ai R)]) (⟨[(0,.cells [.mp 1 0,.mp 3 0,.ms 4 0 a.length a.length 1,ai I,ai J,ai K]),(1,qB c 2 f g),(2,qR d e),(3,.cells [ai L,ai M]),(4,.row (zF (yO zI) a)),(5,.cells [ab w,ab y,ab z,ab i,ai u,ai t,.ms 6 0 A B 3]),(6,.row (zF zC p)),(7,.cells [zH zJ m.c_ .no,zH zC m.args_ .no]),(8,.cells [ai 0,ai 0,ai 0,zH zJ ([]:xN) .nl,zH zC ([]:zW) .nl,zH zC ([]:zW) .nl,zH zV ([]:List zY) .nl]),(9,.cells [ai 3,ai 0,ai u,zH zJ ([]:xN) .nl,zH zC ([]:zW) .nl,zH zC ([]:zW) .nl,zH zV N (.st 0 11)])],10,[0],1,[]⟩) (fQ 7 (nQ 7 f160 (wD r.1) [.cells [.mp 1 0,.mp 3 0,.ms 4 0 a.length a.length 1,ai r.2.1,ai r.2.2.1,ai r.2.2.2.1],qB c 2 f g,qR d e,.cells [ai r.2.2.2.2.1,ai r.2.2.2.2.2],.row (zF (yO zI) a),.cells [ab w,ab y,ab z,ab i,ai u,ai t,.ms 6 0 A B 3],.row (zF zC p)] 0) [.blk 0,.seq (pt 1023 f160)])))∧(∀ {c d e f g E F a q s b m v G U r},L6 D c d e f g E F a q s b m v G U=some r->zJB c d e f g E F a q s b m v G U r Ct)∧(∀ {c d e f g E F a q s b m v G U S H r},pB D c d e f g E F a q s b m v G U S H=some r->(∀j,dL 5 (pt 65461 f245) (sp j 67 0 [(0,.mp 0 0),(3,ai G),(4,ai U),(7,.mp 5 0),(10,.mp 6 0),(11,.mp 7 0),(12,.mp 8 0),(34,zH zC m.args_ .no),(35,ai (m.args_.length:Int)),(36,ai S)]) (⟨[(0,.cells [.mp 1 0,.mp 3 0,.ms 4 0 a.length a.length 1,ai q,ai s,ai b]),(1,qB c 2 f g),(2,qR d e),(3,.cells [ai E,ai F]),(4,.row (zF (yO zI) a)),(5,.cells [ai v.con_,ab v.yes_,zH zS v.args_ .no,zH zJ v.vars_ .no,zH yI v.solved_ .no]),(6,.cells [ai 0,ab false,zH zS ([]:zU) .nl,zH yI ([]:qD) .nl,ai 0,ai 0,ai 0,zH zJ ([]:xN) .nl,zH zC ([]:zW) .nl,zH zC ([]:zW) .nl,zH zV ([]:List zY) .nl]),(7,.cells [ai v.con_,ab v.yes_,zH zS v.args_ .no,zH yI v.solved_ .no,ai 0,ai 0,ai 0,zH zJ ([]:xN) .nl,zH zC ([]:zW) .nl,zH zC ([]:zW) .nl,zH zV ([]:List zY) .nl]),(8,.cells [zH zJ v.vars_ .no,zH zC H (.st 0 3)])],9,[0],1,[]⟩) (fQ 5 (nQ 5 f245 (U3 r.1) [.cells [.mp 1 0,.mp 3 0,.ms 4 0 a.length a.length 1,ai r.2.1,ai r.2.2.1,ai r.2.2.2.1],qB c 2 f g,qR d e,.cells [ai r.2.2.2.2.1,ai r.2.2.2.2.2],.row (zF (yO zI) a)] 0) [.blk 0,.seq (pt 1023 f245)]))):=by
 intro D
 induction D with
 |zero=>
  exact⟨fun h=>nn h,fun h=>nn h,fun h=>nn h,fun h=>nn h,fun h=>nn h,fun h=>nn h⟩
 |succ D ih=>
  obtain⟨zJC,dW,zGk,mA,zGj,fU⟩:=ih
  refine⟨?_,?_,?_,?_,?_,?_⟩
  intro c d e f g E F a q s b m r h
  rw[fR]at h
  obtain⟨r1,h2,h⟩:=zD h
  have k:=oC 1 [3] (zFP h2) o0
  obtain⟨h3,h⟩:=zT h
  exact⟨tH ⟨func98,rfl⟩ 2 [] [0,1,2,3,4,5,6] [] [0,3,4,22,23] (oD (zM ([]:List zY))<|oD (dT ([]:zW))<|oD (dT ([]:zW))<|oD (zE ([]:xN))<|oD (dT m.args_)<|oD (zE m.c_)<|oD ((yP zG) a)<|wS c d e f g<|oB 0 h3 k) (dW h),⟨(lz rfl),⟨⟨tv,zE _⟩,⟨tv,dT _⟩,tv⟩,tv⟩,(zA ⟨(lz rfl),(lz rfl),(lz rfl),tv,tv,tv,tv⟩ (vY (lz rfl) (zA ⟨tv,tv,tv⟩ (zA ((yP zG) _) zB)))),⟨tv,tv,tv,zE _,dT _,dT _,zM _,tv⟩,(zA ⟨(lz rfl),(lz rfl),(lz rfl),tv,tv,tv,tv⟩ (vQ (lz rfl) (zA ⟨tv,tv,tv⟩ (zA ((yP zG) _) zB))))⟩
  intro c d e f g a q s b m r1 P r h
  rw[nZ]at h
  obtain⟨h6,h⟩|⟨h6,h⟩:=xA h
  obtain⟨r7,h8,h⟩:=zD h
  have k:=oC 1 [0,1,2,3,4] (zJc h8)<|oB 0 h6 o0
  obtain⟨h9,h⟩|⟨h9,h⟩:=xA h
  exact fun j=>lH 1 [] [0,1,2,3,4,5,6] [] [0,3,4,22,23] (oD (zM ([]:List zY))<|oD (dT ([]:zW))<|oD (dT ([]:zW))<|oD (zE ([]:xN))<|oD (dT m.args_)<|oD (zE m.c_)<|oD ((yP zG) a)<|wS c d e f g<|oB 0 h9 k) (dW h)
  have k:=oB 0 h9 k
  obtain⟨h10,h⟩:=zT h
  have k:=oB 0 h10 k
  obtain⟨h13,h⟩|⟨h13,h⟩:=xA h
  have k:=oB 0 h13 k
  obtain⟨h14,h⟩|⟨h14,h⟩:=xA h
  obtain⟨r15,h16,h⟩:=zD h
  cases h
  exact fun j=>lF 1 [0,1,2,3,4] (oD (zM r15.1.kids_)<|oD (dT r15.1.args_)<|oD (dT r15.1.binds_)<|oD (zE r15.1.vars_)<|oD ((yP zG) a)<|wS c d e f g<|oC 1 [0,1,2,3,4,7,8] (zJa h16)<|oB 0 h14 k)
  obtain⟨r17,h18,h⟩:=zD h
  cases h
  exact fun j=>lF 1 [0,1,2,3,4] (oD (zM r17.1.kids_)<|oD (dT r17.1.args_)<|oD (dT r17.1.binds_)<|oD (zE r17.1.vars_)<|oD ((yP zG) a)<|wS c d e f g<|oC 1 [0,1,2,3,4,7,8] (zGk h18)<|oB 0 h13<|oB 0 h14 k)
  obtain⟨r19,h20,h⟩:=zD h
  obtain⟨r21,h22,h⟩:=zD h
  obtain⟨r23,h24,h⟩:=zD h
  cases h
  exact fun j=>lF 1 [0,1,2,3,4] (oD (zM ([]:List zY))<|oD (dT r23)<|oD (dT r21)<|oD (zE r19)<|oD ((yP zG) a)<|wS c d e f g<|oC 0 [] (zYj h24)<|rF 0<|oC 0 [8] (zJA h22)<|rF 0<|oC 1 [] (zYk h20)<|oB 0 h13<|oB 0 h13 k)
  obtain⟨r25,h26,h⟩:=zD h
  cases h
  exact fun j=>lF 1 [0,1,2,3,4] (oD (zM r25.1.kids_)<|oD (dT r25.1.args_)<|oD (dT r25.1.binds_)<|oD (zE r25.1.vars_)<|oD ((yP zG) a)<|wS c d e f g<|oC 0 [0,1,2,3,4] (fO h26)<|oB 0 h6 o0)
  intro c d e f g E F a q s b m w y z i u t p A B G r h
  rw[L5]at h
  obtain⟨r1,h2,h⟩:=zD h
  rcases r1 with y3|y7
  dsimp only at h
  have k:=oC 4 [1,2,3] (zNy h2) o0
  obtain⟨h4,h⟩|⟨h4,h⟩:=xA h
  obtain⟨r5,h6,h⟩:=zD h
  cases h
  exact fT (tF fS 1 [0,1,2,3,4,5,6] (oD (zM r5.1.kids_)<|oD (dT r5.1.args_)<|oD (dT r5.1.binds_)<|oD (zE r5.1.vars_)<|oD (dT p)<|oD ((yP zG) a)<|wS c d e f g<|oC 1 [0,1,2,3,4] (fO h6)<|oB 2 h4 k))
  exact fT (tH fS 3 [(some 9,6,11)] [0,1,2,3,4,5,6,7,8,9] [0] [0,2,3,5,8,11,47,48,49] (oD (xW y3.1)<|oD (zM ([]:List zY))<|oD (dT ([]:zW))<|oD (dT ([]:zW))<|oD (zE ([]:xN))<|oD (zM ([]:List zY))<|oD (dT ([]:zW))<|oD (dT ([]:zW))<|oD (zE ([]:xN))<|oD (dT m.args_)<|oD (zE m.c_)<|oD (dT p)<|oD ((yP zG) a)<|wS c d e f g<|oB 2 h4 k) (mA h))
  dsimp only at h
  have k:=oC 4 [1,2,3] (zNy h2) o0
  obtain⟨h8,h⟩|⟨h8,h⟩:=xA h
  obtain⟨r9,h10,h⟩:=zD h
  cases h
  exact fT (tF fS 1 [0,1,2,3,4,5,6] (oD (zM r9.1.kids_)<|oD (dT r9.1.args_)<|oD (dT r9.1.binds_)<|oD (zE r9.1.vars_)<|oD (dT p)<|oD ((yP zG) a)<|wS c d e f g<|oC 1 [0,1,2,3,4] (fO h10)<|oB 2 h8 k))
  exact fT (tH fS 3 [(some 9,6,11)] [0,1,2,3,4,5,6,7,8,9] [0] [0,2,3,5,8,11,47,48,49] (oD (xW y7.1)<|oD (zM ([]:List zY))<|oD (dT ([]:zW))<|oD (dT ([]:zW))<|oD (zE ([]:xN))<|oD (zM ([]:List zY))<|oD (dT ([]:zW))<|oD (dT ([]:zW))<|oD (zE ([]:xN))<|oD (dT m.args_)<|oD (zE m.c_)<|oD (dT p)<|oD ((yP zG) a)<|wS c d e f g<|oB 2 h8 k) (mA h))
  intro c d e f g a m w y z i u t p A B G Q T R I J K L M N r h
  rw[rH]at h
  obtain⟨h7,h⟩:=xD h
  obtain⟨x8,h9,h⟩:=zD h
  obtain⟨r10,h11,h⟩:=zD h
  obtain⟨l12,h13,h⟩:=zD h
  have k:=oP 0 (zSE h13 (by simp))<|oS 0 (xL lU [r10.1])<|oC 3 [0,1,2,3,4] (zGj h11)<|rF 2<|oA 0 (zNQ (o:=.no) h9)<|oB 0 h7 o0
  obtain⟨h14,h⟩|⟨h14,h⟩:=xA h
  cases h
  exact fun j=>lF 1 [0,1,2,3,4,5,6] (oD (zM ([]:List zY))<|oD (dT ([]:zW))<|oD (dT ([]:zW))<|oD (zE ([]:xN))<|oD (dT p)<|oD ((yP zG) a)<|wS c d e f g<|oB 2 h14 k)
  exact fun j=>lH 1 [] [0,1,2,3,4,5,6,7,8,9] [1] [0,2,3,5,8,11,47,48,49] (oD (xW Q)<|oD (zM l12)<|oD (dT ([]:zW))<|oD (dT ([]:zW))<|oD (zE ([]:xN))<|oD (zM ([]:List zY))<|oD (dT ([]:zW))<|oD (dT ([]:zW))<|oD (zE ([]:xN))<|oD (dT m.args_)<|oD (zE m.c_)<|oD (dT p)<|oD ((yP zG) a)<|wS c d e f g<|oB 2 h14 k) (mA h)
  intro c d e f g E F a q s b m v G U r h
  rw[L6]at h
  obtain⟨h1,h⟩:=xD h
  exact⟨tH ⟨func245,rfl⟩ 5 [(some 9,1,3)] [0,1,2,3,4,6,7,8,9] [0] [0,3,4,7,10,11,12,34,35,36] (oD (dT m.args_)<|oD (dT ([]:zW))<|oD (zE v.vars_)<|oD (zM ([]:List zY))<|oD (dT ([]:zW))<|oD (dT ([]:zW))<|oD (zE ([]:xN))<|oD (yB v.solved_)<|oD (dI v.args_)<|oD (zM ([]:List zY))<|oD (dT ([]:zW))<|oD (dT ([]:zW))<|oD (zE ([]:xN))<|oD (yB ([]:qD))<|oD (dI ([]:zU))<|oD (yB v.solved_)<|oD (zE v.vars_)<|oD (dI v.args_)<|oD ((yP zG) a)<|wS c d e f g<|oB 5 h1 o0) (fU h),⟨(lz rfl),⟨⟨tv,zE _⟩,⟨tv,dT _⟩,tv⟩,⟨tv,tv,⟨tv,dI _⟩,⟨tv,zE _⟩,⟨tv,yB _⟩,tv⟩,tv,tv,tv⟩,(zA ⟨(lz rfl),(lz rfl),(lz rfl),tv,tv,tv,tv⟩ (vY (lz rfl) (zA ⟨tv,tv,tv⟩ (zA ((yP zG) _) zB)))),⟨tv,tv,dI _,yB _,tv,tv,tv,zE _,dT _,dT _,zM _,tv⟩,(zA ⟨(lz rfl),(lz rfl),(lz rfl),tv,tv,tv,tv⟩ (vQ (lz rfl) (zA ⟨tv,tv,tv⟩ (zA ((yP zG) _) zB))))⟩
  intro c d e f g E F a q s b m v G U S H r h
  rw[pB]at h
  obtain⟨h2,h⟩|⟨h2,h⟩:=xA h
  obtain⟨x3,h4,h⟩:=zD h
  obtain⟨r5,h6,h⟩:=zD h
  have k:=oC 4 [] (zQW h6)<|oA 0 (wN (o:=.no) h4)<|oB 0 h2 o0
  obtain⟨h7,h⟩:=zT h
  obtain⟨l10,h11,h⟩:=zD h
  exact fun j=>lH 2 [] [0,1,2,3,4,5,6,7,8] [1] [0,3,4,7,10,11,12,34,35,36] (oD (dT m.args_)<|oD (dT l10)<|oD (zE v.vars_)<|oD (zM ([]:List zY))<|oD (dT ([]:zW))<|oD (dT ([]:zW))<|oD (zE ([]:xN))<|oD (yB v.solved_)<|oD (dI v.args_)<|oD (zM ([]:List zY))<|oD (dT ([]:zW))<|oD (dT ([]:zW))<|oD (zE ([]:xN))<|oD (yB ([]:qD))<|oD (dI ([]:zU))<|oD (yB v.solved_)<|oD (zE v.vars_)<|oD (dI v.args_)<|oD ((yP zG) a)<|wS c d e f g<|oP 0 (vO h11 (by simp))<|oS 2 (xL xU [r5.1])<|oB 3 h7 k) (fU h)
  obtain⟨r12,h13,h⟩:=zD h
  cases h
  exact fun j=>lF 3 [0,1,2,3,4] (oD (zM r12.1.kids_)<|oD (dT r12.1.args_)<|oD (dT r12.1.binds_)<|oD (zE r12.1.vars_)<|oD (yB v.solved_)<|oD (dI v.args_)<|oD ((yP zG) a)<|wS c d e f g<|oC 1 [0,1,2,3,4] (zJC h13)<|oB 0 h2 o0)
theorem zNv{D c d e f g E F a q s b m r}(h:fR D c d e f g E F a q s b m=some r):zEF c d e f g E F a q s b m r Ct:=(vG _).1 h
end Go.Proofs.YthncfoeaibgmnaaGreat
namespace Go.Proofs.YthncfoeaibgmnaaGreat
open Go Go.RowKit
set_option maxRecDepth 100000 in
set_option maxHeartbeats 1600000 in
theorem zBJ(F:Fence)(n:Nat)(h:F.fn 101)(hro:F.round=none)(cs:Array Value)(w:World) :
  CallsIn F n Tryz.prog 101 #[.agg cs] w fun e w'=>e = .returned (.func (.func 163) #[] #[.pointer (some ⟨w.heap.size,0,none⟩)])∧w'=w.alloc (.cells cs 81):=by
 refine callsIn_of_wp Tryz.func101 rfl h ?_ hro
 simp only[Tryz.ntmps101,List.size_toArray,List.length_cons,List.length_nil,Nat.reduceAdd,Nat.reduceSub,Array.replicate_succ,Array.replicate_zero,List.push_toArray,List.append_toArray,List.nil_append,List.cons_append]
 gi_wp2
 go_ret
 exact⟨rfl,rfl⟩
set_option maxRecDepth 100000 in
set_option maxHeartbeats 1600000 in
theorem zNu(F:Fence)(n:Nat)(h:F.fn 164)(hro:F.round=none)(hn:1≤n)(l:Nat)(fn:FuncId)(T:Array Value)(asg body:Code)(x0 x1 x2 x3 x4 x5:Value)(p:Option Addr)(m:Nat)(w:World)
  (hy:(Instr.yield l #[.agg #[x0,x1,x2,x3,x4,x5,.slice p 0 m]]).run Tryz.prog (w.alloc (.cells #[x0,x1,x2,x3,x4,x5,.slice p 0 m] 81)) = .ok (.round l fn T asg body) (w.alloc (.cells #[x0,x1,x2,x3,x4,x5,.slice p 0 m] 81))) (J:World->Prop)
  (hround:RoundIn F (n-1) Tryz.prog l fn T asg body (w.alloc (.cells #[x0,x1,x2,x3,x4,x5,.slice p 0 m] 81))
   fun e w'=>e = .returned (.bool true)∧w'.cell? ⟨w.heap.size,6,none⟩=some (.slice p 0 m)∧J w') :
  CallsIn F n Tryz.prog 164 #[.agg #[x0,x1,x2,x3,x4,x5,.slice p 0 m],.func (.yield l) #[] #[]] w fun e w'=>(∃v,e = .returned v)∧J w':=by
 refine callsIn_of_wp Tryz.func164 rfl h ?_ hro
 simp only[Tryz.ntmps164,List.size_toArray,List.length_cons,List.length_nil,Nat.reduceAdd,Nat.reduceSub,Array.replicate_succ,Array.replicate_zero,List.push_toArray,List.append_toArray,List.nil_append,List.cons_append]
 gi_wp2
 refine hround.mono ?_
 rintro e w1 ⟨rfl,hc,hJ⟩
 gi_wp2
 first|refine wpIn_loop_once ?_|skip
 gi_wp2
 first|go_end0|go_ret
 exact⟨⟨_,rfl⟩,hJ⟩
set_option maxRecDepth 100000 in
set_option maxHeartbeats 1600000 in
theorem zEG(F:Fence)(n:Nat)(h:F.fn 163)(h4:F.fn 164)(hro:F.round=none)(hn:2≤n)(l b:Nat)(fn:FuncId)(T:Array Value)(asg body:Code)(x0 x1 x2 x3 x4 x5:Value)(p:Option Addr)(m:Nat)(w:World)
  (hb:w.heap[b]? = some (.cells #[x0,x1,x2,x3,x4,x5,.slice p 0 m] 81 (0,0)))
  (hy:(Instr.yield l #[.agg #[x0,x1,x2,x3,x4,x5,.slice p 0 m]]).run Tryz.prog (w.alloc (.cells #[x0,x1,x2,x3,x4,x5,.slice p 0 m] 81)) = .ok (.round l fn T asg body) (w.alloc (.cells #[x0,x1,x2,x3,x4,x5,.slice p 0 m] 81))) (J:World->Prop)
  (hround:RoundIn F (n-1-1) Tryz.prog l fn T asg body (w.alloc (.cells #[x0,x1,x2,x3,x4,x5,.slice p 0 m] 81))
   fun e w'=>e = .returned (.bool true)∧w'.cell? ⟨w.heap.size,6,none⟩=some (.slice p 0 m)∧J w') :
  CallsIn F n Tryz.prog 163 #[.func (.yield l) #[] #[],.pointer (some ⟨b,0,none⟩)] w fun e w'=>(∃v,e = .returned v)∧J w':=by
 refine callsIn_of_wp Tryz.func163 rfl h ?_ hro
 simp only[Tryz.ntmps163,List.size_toArray,List.length_cons,List.length_nil,Nat.reduceAdd,Nat.reduceSub,Array.replicate_succ,Array.replicate_zero,List.push_toArray,List.append_toArray,List.nil_append,List.cons_append]
 have h1:1≤n:=by omega
 have c0:w.cell? ⟨b,0,none⟩=some x0:=by simp[World.cell?,hb]
 have c1:w.cell? ⟨b,1,none⟩=some x1:=by simp[World.cell?,hb]
 have c2:w.cell? ⟨b,2,none⟩=some x2:=by simp[World.cell?,hb]
 have c3:w.cell? ⟨b,3,none⟩=some x3:=by simp[World.cell?,hb]
 have c4:w.cell? ⟨b,4,none⟩=some x4:=by simp[World.cell?,hb]
 have c5:w.cell? ⟨b,5,none⟩=some x5:=by simp[World.cell?,hb]
 have c6:w.cell? ⟨b,6,none⟩=some (.slice p 0 m):=by simp[World.cell?,hb]
 gi_wp2_with (gi_at_call 164;refine(zNu F (n-1) h4 hro (by omega) l fn T asg body x0 x1 x2 x3 x4 x5 p m w hy J hround).mono ?_;rintro e w' ⟨⟨v,rfl⟩,hJ⟩)
 first|go_end0|go_ret
 exact⟨⟨_,rfl⟩,hJ⟩
structure zNZ (cs:Array Value) (b1 l:Nat) (R0:Loop) (W w':World):Prop where
 os:w'.os=W.os
 tape:w'.tape=W.tape
 output:w'.output=W.output
 size:W.heap.size≤w'.heap.size
 block:∀k,k<W.heap.size->k≠b1->k≠l->w'.heap[k]? = W.heap[k]?
 res:∃B cap rest,1≤cap∧W.heap.size≤B∧w'.cell? ⟨b1,0,none⟩=some (.slice (some ⟨B,0,none⟩) 1 cap)∧w'.heap[B]? = some (.cells (cs++rest) 81 (0,0))
 recd:w'.heap[l]? = some (.loop { R0 with state:=.ready,pending:=none })
def zBK:Code:=(Code.region 3 #[{ dst:=some 4,op:=Op.alloc 81,type:=0,pos := "cover.go:282", after:=#[],guard:=none },{ dst:=none,op:=Op.store 81 (Operand.tmp 4) (Operand.tmp 7),type:=0,pos := "cover.go:282", after:=#[{ on:=0,ground:=Ground.data },{ on:=0,ground:=Ground.phase }],guard:=none }] false)
def L8:Code:=(Code.block 1 ((Code.region 4 #[{ dst:=some 8,op:=Op.fieldAddr 81 (Operand.tmp 4) 0,type:=0,pos := "cover.go:283", after:=#[],guard:=none },{ dst:=some 9,op:=Op.load 3 (Operand.tmp 8),type:=3,pos := "cover.go:283", after:=#[{ on:=0,ground:=Ground.data }],guard:=none },{ dst:=some 10,op:=Op.binOp BinOp.eql 3 (Operand.tmp 9) (Operand.const (Value.int IntKind.i64 1)) 3,type:=4,pos := "cover.go:283", after:=#[{ on:=1,ground:=Ground.data }],guard:=none }] false).seq (Code.cond (Operand.tmp 10) (Code.region 5 #[{ dst:=some 11,op:=Op.load 126 (Operand.tmp 3),type:=126,pos := "cover.go:284", after:=#[],guard:=none },{ dst:=some 12,op:=Op.load 81 (Operand.tmp 4),type:=81,pos := "cover.go:284", after:=#[],guard:=none },{ dst:=some 13,op:=Op.buildSlice 126 1 #[(0,Operand.tmp 12)],type:=126,pos := "cover.go:284", after:=#[{ on:=1,ground:=Ground.data }],guard:=none },{ dst:=some 14,op:=Op.call { callee:=Callee.builtin Builtin.append,args:=#[Operand.tmp 11,Operand.tmp 13],argTypes:=#[126,126] },type:=126,pos := "cover.go:284", after:=#[{ on:=0,ground:=Ground.data },{ on:=2,ground:=Ground.data }],guard:=none },{ dst:=none,op:=Op.store 126 (Operand.tmp 3) (Operand.tmp 14),type:=0,pos := "cover.go:284", after:=#[{ on:=3,ground:=Ground.data },{ on:=3,ground:=Ground.chain },{ on:=0,ground:=Ground.phase },{ on:=1,ground:=Ground.phase },{ on:=2,ground:=Ground.phase },{ on:=3,ground:=Ground.phase }],guard:=none }] false) Code.skip)))
def zBL:Code:=(Code.region 3 #[{ dst:=some 6,op:=Op.alloc 81,type:=0,pos := "cover.go:304", after:=#[],guard:=none },{ dst:=none,op:=Op.store 81 (Operand.tmp 6) (Operand.tmp 13),type:=0,pos := "cover.go:304", after:=#[{ on:=0,ground:=Ground.data },{ on:=0,ground:=Ground.phase }],guard:=none }] false)
def L9:Code:=(Code.block 1 ((Code.region 4 #[{ dst:=some 14,op:=Op.fieldAddr 81 (Operand.tmp 6) 0,type:=0,pos := "cover.go:305", after:=#[],guard:=none },{ dst:=some 15,op:=Op.load 3 (Operand.tmp 14),type:=3,pos := "cover.go:305", after:=#[{ on:=0,ground:=Ground.data }],guard:=none },{ dst:=some 16,op:=Op.binOp BinOp.eql 3 (Operand.tmp 15) (Operand.const (Value.int IntKind.i64 1)) 3,type:=4,pos := "cover.go:305", after:=#[{ on:=1,ground:=Ground.data }],guard:=none },{ dst:=some 17,op:=Op.move (Operand.tmp 16),type:=4,pos := "cover.go:305", after:=#[{ on:=2,ground:=Ground.data }],guard:=none },{ dst:=some 18,op:=Op.fieldAddr 81 (Operand.tmp 6) 0,type:=0,pos := "cover.go:305", after:=#[{ on:=3,ground:=Ground.guard }],guard:=some (3,false) },{ dst:=some 19,op:=Op.load 3 (Operand.tmp 18),type:=3,pos := "cover.go:305", after:=#[{ on:=4,ground:=Ground.data },{ on:=3,ground:=Ground.guard }],guard:=some (3,false) },{ dst:=some 20,op:=Op.binOp BinOp.eql 3 (Operand.tmp 19) (Operand.const (Value.int IntKind.i64 2)) 3,type:=4,pos := "cover.go:305", after:=#[{ on:=5,ground:=Ground.data },{ on:=3,ground:=Ground.guard }],guard:=some (3,false) },{ dst:=some 21,op:=Op.pick (Operand.tmp 17) (Operand.const (Value.bool true)) (Operand.tmp 20),type:=4,pos := "cover.go:305", after:=#[{ on:=3,ground:=Ground.data },{ on:=6,ground:=Ground.data }],guard:=none },{ dst:=some 22,op:=Op.move (Operand.tmp 21),type:=4,pos := "cover.go:305", after:=#[{ on:=7,ground:=Ground.data },{ on:=3,ground:=Ground.chain }],guard:=none },{ dst:=some 23,op:=Op.fieldAddr 81 (Operand.tmp 6) 1,type:=0,pos := "cover.go:305", after:=#[{ on:=8,ground:=Ground.guard }],guard:=some (8,true) },{ dst:=some 24,op:=Op.load 3 (Operand.tmp 23),type:=3,pos := "cover.go:305", after:=#[{ on:=9,ground:=Ground.data },{ on:=8,ground:=Ground.guard }],guard:=some (8,true) },{ dst:=some 25,op:=Op.binOp BinOp.geq 3 (Operand.tmp 24) (Operand.const (Value.int IntKind.i64 0)) 3,type:=4,pos := "cover.go:305", after:=#[{ on:=10,ground:=Ground.data },{ on:=8,ground:=Ground.guard }],guard:=some (8,true) },{ dst:=some 26,op:=Op.pick (Operand.tmp 22) (Operand.tmp 25) (Operand.const (Value.bool false)),type:=4,pos := "cover.go:305", after:=#[{ on:=8,ground:=Ground.data },{ on:=11,ground:=Ground.data }],guard:=none },{ dst:=some 27,op:=Op.move (Operand.tmp 26),type:=4,pos := "cover.go:305", after:=#[{ on:=12,ground:=Ground.data },{ on:=8,ground:=Ground.chain }],guard:=none },{ dst:=some 28,op:=Op.fieldAddr 81 (Operand.tmp 6) 1,type:=0,pos := "cover.go:305", after:=#[{ on:=13,ground:=Ground.guard }],guard:=some (13,true) },{ dst:=some 29,op:=Op.load 3 (Operand.tmp 28),type:=3,pos := "cover.go:305", after:=#[{ on:=14,ground:=Ground.data },{ on:=13,ground:=Ground.guard }],guard:=some (13,true) },{ dst:=some 30,op:=Op.load 199 (Operand.tmp 5),type:=199,pos := "cover.go:305", after:=#[{ on:=13,ground:=Ground.guard }],guard:=some (13,true) },{ dst:=some 31,op:=Op.call { callee:=Callee.builtin Builtin.len,args:=#[Operand.tmp 30],argTypes:=#[199] },type:=3,pos := "cover.go:305", after:=#[{ on:=16,ground:=Ground.data },{ on:=13,ground:=Ground.guard }],guard:=some (13,true) },{ dst:=some 32,op:=Op.binOp BinOp.lss 3 (Operand.tmp 29) (Operand.tmp 31) 3,type:=4,pos := "cover.go:305", after:=#[{ on:=15,ground:=Ground.data },{ on:=17,ground:=Ground.data },{ on:=13,ground:=Ground.guard }],guard:=some (13,true) },{ dst:=some 33,op:=Op.pick (Operand.tmp 27) (Operand.tmp 32) (Operand.const (Value.bool false)),type:=4,pos := "cover.go:305", after:=#[{ on:=13,ground:=Ground.data },{ on:=18,ground:=Ground.data }],guard:=none }] false).seq (Code.cond (Operand.tmp 33) (Code.region 5 #[{ dst:=some 34,op:=Op.load 199 (Operand.tmp 5),type:=199,pos := "cover.go:306", after:=#[],guard:=none },{ dst:=some 35,op:=Op.fieldAddr 81 (Operand.tmp 6) 1,type:=0,pos := "cover.go:306", after:=#[],guard:=none },{ dst:=some 36,op:=Op.load 3 (Operand.tmp 35),type:=3,pos := "cover.go:306", after:=#[{ on:=1,ground:=Ground.data }],guard:=none },{ dst:=some 37,op:=Op.indexAddr 199 (Operand.tmp 34) (Operand.tmp 36),type:=0,pos := "cover.go:306", after:=#[{ on:=0,ground:=Ground.data },{ on:=2,ground:=Ground.data },{ on:=0,ground:=Ground.phase },{ on:=1,ground:=Ground.phase },{ on:=2,ground:=Ground.phase }],guard:=none },{ dst:=none,op:=Op.store 4 (Operand.tmp 37) (Operand.const (Value.bool true)),type:=0,pos := "cover.go:306", after:=#[{ on:=3,ground:=Ground.data },{ on:=0,ground:=Ground.phase },{ on:=1,ground:=Ground.phase },{ on:=2,ground:=Ground.phase }],guard:=none }] false) Code.skip)))
set_option maxRecDepth 100000 in
set_option maxHeartbeats 1600000 in
theorem zJD(F:Fence)(n:Nat)(fn:FuncId)(hfn:F.fn fn)(l D b0 b1 b2:Nat)(r v:Int)(p3 p4 p5:Option Addr)(n3 m3 n4 m4 n5 m5:Nat)(p:Option Addr)(m:Nat)(W:World)
  (hc1:W.cell? ⟨b1,0,none⟩=some (.slice none 0 0)) (hf1:W.frozen? ⟨b1,0,none⟩=false) (R0:Loop) (hR:R0.state = .ready) (hL:W.heap[l]? = some (.loop R0)) :
  RoundIn F n Tryz.prog l fn #[.agg #[.int .i64 1,.int .i64 r,.int .i64 v,.slice p3 n3 m3,.slice p4 n4 m4,.slice p5 n5 m5,.slice p 0 m],.pointer (some ⟨b0,0,none⟩),.slice none 0 0,.pointer (some ⟨b1,0,none⟩),undef,.agg #[.int .i64 1,.int .i64 r,.int .i64 v,.slice p3 n3 m3,.slice p4 n4 m4,.slice p5 n5 m5,.slice p 0 m],.func (.func 163) #[] #[.pointer (some ⟨b2,0,none⟩)],.agg #[.int .i64 1,.int .i64 r,.int .i64 v,.slice p3 n3 m3,.slice p4 n4 m4,.slice p5 n5 m5,.slice p 0 m],undef,undef,undef,undef,undef,undef,undef,undef] zBK L8 W
   fun e w'=>e = .returned (.bool true)∧zNZ #[.int .i64 1,.int .i64 r,.int .i64 v,.slice p3 n3 m3,.slice p4 n4 m4,.slice p5 n5 m5,.slice p 0 m] b1 l R0 W w':=by
 refine roundIn_of_wpIn hfn ?_
 unfold zBK
 gi_wp2_with (rw[Oper.semAt_eq _ _ _ (fun c h=>by cases h)];go_simp;try go_bits)
 have hl:l<W.heap.size:=(Array.getElem?_eq_some_iff.1 hL).1
 have hb1:b1<W.heap.size:=World.block_lt_of_cell? W ⟨b1,0,none⟩ hc1
 obtain⟨W1,hW1⟩:∃W1,W.alloc (.cells #[.int .i64 1,.int .i64 r,.int .i64 v,.slice p3 n3 m3,.slice p4 n4 m4,.slice p5 n5 m5,.slice p 0 m] 81)=W1:=⟨_,rfl⟩
 have hL1:W1.heap[l]? = some (.loop R0):=by rw[←hW1];exact(Below.heap_alloc _ _ l hl).trans hL
 have hbr:=run_beginRound (P:=Tryz.prog) hL1 hR
 rw[hW1]
 obtain⟨W2,hW2⟩:∃W2,W1.putObj l (.loop { R0 with state:=.busy })=W2:=⟨_,rfl⟩
 rw[hW2]at hbr
 refine⟨W2,hbr,?_⟩
 have hx:W2.heap[W.heap.size]? = some (.cells #[.int .i64 1,.int .i64 r,.int .i64 v,.slice p3 n3 m3,.slice p4 n4 m4,.slice p5 n5 m5,.slice p 0 m] 81 (0,0)):=by
  rw[←hW2,World.putObj_heap_other (by omega),←hW1];exact World.alloc_heap_new W _
 have hb1':W2.heap[b1]? = W.heap[b1]?:=by
  rw[←hW2,World.putObj_heap_other (by rintro rfl;simp[World.cell?,hL]at hc1),←hW1];exact Below.heap_alloc _ _ b1 hb1
 have hc2:W2.cell? ⟨b1,0,none⟩=some (.slice none 0 0):=(World.cell?_of_block hb1').trans hc1
 have hf2:W2.frozen? ⟨b1,0,none⟩=false:=(World.frozen?_of_block hb1').trans hf1
 have d0:W2.cell? ⟨W.heap.size,0,none⟩=some (.int .i64 1):=by simp[World.cell?,hx]
 have d1:W2.cell? ⟨W.heap.size,1,none⟩=some (.int .i64 r):=by simp[World.cell?,hx]
 have d2:W2.cell? ⟨W.heap.size,2,none⟩=some (.int .i64 v):=by simp[World.cell?,hx]
 have d3:W2.cell? ⟨W.heap.size,3,none⟩=some (.slice p3 n3 m3):=by simp[World.cell?,hx]
 have d4:W2.cell? ⟨W.heap.size,4,none⟩=some (.slice p4 n4 m4):=by simp[World.cell?,hx]
 have d5:W2.cell? ⟨W.heap.size,5,none⟩=some (.slice p5 n5 m5):=by simp[World.cell?,hx]
 have d6:W2.cell? ⟨W.heap.size,6,none⟩=some (.slice p 0 m):=by simp[World.cell?,hx]
 have hs2:W.heap.size<W2.heap.size:=(Array.getElem?_eq_some_iff.1 hx).1
 have hc3:∀X Y,((W2.alloc X).alloc Y).cell? ⟨b1,0,none⟩=some (.slice none 0 0):=fun X Y=>by
  rw[World.cell?_alloc_lt _ _ _ (by simp;omega),World.cell?_alloc_lt _ _ _ (by simp;omega)];exact hc2
 have hf3:∀X Y,((W2.alloc X).alloc Y).frozen? ⟨b1,0,none⟩=false:=fun X Y=>by
  rw[World.frozen?_alloc_old _ _ _ (by simp;omega),World.frozen?_alloc_old _ _ _ (by simp;omega)];exact hf2
 unfold L8
 gi_wp2_with (rw[Oper.semAt_eq _ _ _ (fun c h=>by cases h)];go_simp;try go_bits)
 all_goals try (rename_i hbig;exact absurd hbig (by decide))
 rename_i hsmall
 obtain⟨X,hX⟩:∃X:Obj,X = .cells #[.int .i64 1,.int .i64 r,.int .i64 v,.slice p3 n3 m3,.slice p4 n4 m4,.slice p5 n5 m5,.slice p 0 m] 81:=⟨_,rfl⟩
 rw[←hX]
 obtain⟨Z,hZ⟩:∃Z,Builtin.zeroCells #[.int .i64 0,.int .i64 0,.int .i64 0,.slice none 0 0,.slice none 0 0,.slice none 0 0,.slice none 0 0] ((Question.appendCap 1 0 81).cut (W2.tape W2.drawn (Question.appendCap 1 0 81))-1)=Z:=⟨_,rfl⟩
 rw[hZ]
 obtain⟨cp,hcp⟩:∃cp,(Question.appendCap 1 0 81).cut (W2.tape W2.drawn (Question.appendCap 1 0 81))=cp:=⟨_,rfl⟩
 rw[hcp]
 have hcp1:1≤cp:=by rw[←hcp];exact Nat.le_add_right 1 _
 obtain⟨Y,hY⟩:∃Y:Obj,Y = .cells (#[.int .i64 1,.int .i64 r,.int .i64 v,.slice p3 n3 m3,.slice p4 n4 m4,.slice p5 n5 m5,.slice p 0 m]++Z) 81:=⟨_,rfl⟩
 rw[←hY]
 have hbl:b1≠l:=by rintro rfl;simp[World.cell?,hL]at hc1
 have hl2:W2.heap[l]? = some (.loop { R0 with state:=.busy }):=by rw[←hW2];exact World.putObj_heap_same (Array.getElem?_eq_some_iff.1 hL1).1
 have hl2':l<W2.heap.size:=(Array.getElem?_eq_some_iff.1 hl2).1
 obtain⟨W3,hW3⟩:∃W3,(((W2.alloc X).alloc Y).setCell ⟨b1,0,none⟩ (.slice (some ⟨W2.heap.size+1,0,none⟩) 1 cp)).drew=W3:=⟨_,rfl⟩
 have hk3:∀k,k<W2.heap.size->k≠b1->W3.heap[k]? = W2.heap[k]?:=fun k hk hkb=>by
  rw[←hW3]
  exact((Below.heap_setCell _ _ _ k hkb).trans ((Below.heap_alloc _ _ k (by simp;omega)).trans (Below.heap_alloc _ _ k hk)))
 have hB3:W3.heap[W2.heap.size+1]? = some Y:=by
  rw[←hW3]
  refine(Below.heap_setCell _ _ _ _ (by show W2.heap.size+1≠b1;omega)).trans ?_
  have:=World.alloc_heap_new (W2.alloc X) Y
  rwa[World.size_alloc]at this
 have hc4:W3.cell? ⟨b1,0,none⟩=some (.slice (some ⟨W2.heap.size+1,0,none⟩) 1 cp):=by
  rw[←hW3,World.cell?_drew]
  exact World.cell?_setCell_same' _ _ _ (by rw[hc3];rfl)
 have hend:=run_endRound (P:=Tryz.prog) none ((hk3 l hl2' (Ne.symm hbl)).trans hl2)
 rw[hW3]
 refine⟨_,_,hend,rfl,?_⟩
 have hs12:W2.heap.size=W.heap.size+1:=by rw[←hW2,World.putObj_size,←hW1];simp
 have hs3:W3.heap.size=W2.heap.size+2:=by rw[←hW3];simp
 refine⟨?_,?_,?_,?_,fun k hk hkb hkl=>?_,⟨W2.heap.size+1,cp,Z,hcp1,by omega,?_,?_⟩,?_⟩
 ·rw[←hW3,←hW2,←hW1];rfl
 ·rw[←hW3,←hW2,←hW1];rfl
 ·rw[←hW3,←hW2,←hW1];rfl
 ·rw[World.putObj_size];omega
 ·rw[World.putObj_heap_other hkl,hk3 k (by omega) hkb,←hW2,World.putObj_heap_other hkl,←hW1];exact Below.heap_alloc _ _ k hk
 ·exact(World.cell?_of_block (World.putObj_heap_other hbl)).trans hc4
 ·rw[World.putObj_heap_other (by omega),hB3,hY]
 ·exact World.putObj_heap_same (by omega)
set_option maxRecDepth 100000 in
set_option maxHeartbeats 3200000 in
theorem zGi(F:Fence)(n:Nat)(h0:F.fn 50)(h1:F.fn 101)(h3:F.fn 163)(h4:F.fn 164)(hro:F.round=none)(hn:4≤n)(r v:Int)(p3 p4 p5:Option Addr)(n3 m3 n4 m4 n5 m5:Nat)(p:Option Addr)(m:Nat)(w:World) :
  CallsIn F n Tryz.prog 50 #[.agg #[.int .i64 1,.int .i64 r,.int .i64 v,.slice p3 n3 m3,.slice p4 n4 m4,.slice p5 n5 m5,.slice p 0 m]] w fun e w'=>∃B cap rest,e = .returned (.slice (some ⟨B,0,none⟩) 1 cap)∧1≤cap ∧
   w'.os=w.os∧w'.tape=w.tape∧w'.output=w.output∧w.heap.size≤w'.heap.size∧(∀k,k<w.heap.size->w'.heap[k]? = w.heap[k]?)∧w.heap.size≤B ∧
   w'.heap[B]? = some (.cells (#[.int .i64 1,.int .i64 r,.int .i64 v,.slice p3 n3 m3,.slice p4 n4 m4,.slice p5 n5 m5,.slice p 0 m]++rest) 81 (0,0)):=by
 have hn1:1≤n:=by omega
 refine callsIn_of_wp_marks Tryz.func50 rfl h0 ?_ hro
 simp only[Tryz.ntmps50,List.size_toArray,List.length_cons,List.length_nil,Nat.reduceAdd,Nat.reduceSub,Array.replicate_succ,Array.replicate_zero,List.push_toArray,List.append_toArray,List.nil_append,List.cons_append]
 gi_wp2_with (gi_at_call 101;refine(zBJ F (n-1) h1 hro _ _).mono ?_;rintro e w' ⟨rfl,rfl⟩)
 obtain⟨cs,hcs⟩:∃cs:Array Value,#[.int .i64 1,.int .i64 r,.int .i64 v,.slice p3 n3 m3,.slice p4 n4 m4,.slice p5 n5 m5,.slice p 0 m]=cs:=⟨_,rfl⟩
 obtain⟨W0,hW0⟩:∃W0,((w.alloc (.cells #[.int .i64 1,.int .i64 r,.int .i64 v,.slice p3 n3 m3,.slice p4 n4 m4,.slice p5 n5 m5,.slice p 0 m] 81)).alloc (.cells #[.slice none 0 0] 126)).alloc (.cells #[.int .i64 1,.int .i64 r,.int .i64 v,.slice p3 n3 m3,.slice p4 n4 m4,.slice p5 n5 m5,.slice p 0 m] 81)=W0:=⟨_,rfl⟩
 have hs0:W0.heap.size=w.heap.size+3:=by rw[←hW0];simp
 have hB1:W0.heap[w.heap.size+1]? = some (.cells #[.slice none 0 0] 126 (0,0)):=by
  rw[←hW0];refine(Below.heap_alloc _ _ _ (by simp)).trans ?_
  have:=World.alloc_heap_new (w.alloc (.cells #[.int .i64 1,.int .i64 r,.int .i64 v,.slice p3 n3 m3,.slice p4 n4 m4,.slice p5 n5 m5,.slice p 0 m] 81)) (.cells #[.slice none 0 0] 126);rwa[World.size_alloc]at this
 have hB2:W0.heap[w.heap.size+1+1]? = some (.cells #[.int .i64 1,.int .i64 r,.int .i64 v,.slice p3 n3 m3,.slice p4 n4 m4,.slice p5 n5 m5,.slice p 0 m] 81 (0,0)):=by
  rw[←hW0];have:=World.alloc_heap_new ((w.alloc (.cells #[.int .i64 1,.int .i64 r,.int .i64 v,.slice p3 n3 m3,.slice p4 n4 m4,.slice p5 n5 m5,.slice p 0 m] 81)).alloc (.cells #[.slice none 0 0] 126)) (.cells #[.int .i64 1,.int .i64 r,.int .i64 v,.slice p3 n3 m3,.slice p4 n4 m4,.slice p5 n5 m5,.slice p 0 m] 81);rwa[World.size_alloc,World.size_alloc]at this
 have ho0:∀k,k<w.heap.size->W0.heap[k]? = w.heap[k]?:=fun k hk=>by
  rw[←hW0];exact((Below.heap_alloc _ _ k (by simp;omega)).trans (Below.heap_alloc _ _ k (by simp;omega))).trans (Below.heap_alloc _ _ k hk)
 have hos0:W0.os=w.os∧W0.tape=w.tape∧W0.output=w.output:=by rw[←hW0];exact⟨rfl,rfl,rfl⟩
 rw[hW0]
 refine wpIn_rangeFunc ?_
 intro fn hfn
 rw[hro]
 obtain⟨R0,hR0⟩:∃R0:Loop,R0 = { state:=.ready,pending:=none,fn,tmps:=#[.agg #[.int .i64 1,.int .i64 r,.int .i64 v,.slice p3 n3 m3,.slice p4 n4 m4,.slice p5 n5 m5,.slice p 0 m],.pointer (some ⟨w.heap.size,0,none⟩),.slice none 0 0,.pointer (some ⟨w.heap.size+1,0,none⟩),undef,.agg #[.int .i64 1,.int .i64 r,.int .i64 v,.slice p3 n3 m3,.slice p4 n4 m4,.slice p5 n5 m5,.slice p 0 m],.func (.func 163) #[] #[.pointer (some ⟨w.heap.size+1+1,0,none⟩)],undef,undef,undef,undef,undef,undef,undef,undef,undef],params:=#[7],assign:=zBK,body:=L8,defers:=W0.heap.size }:=⟨_,rfl⟩
 obtain⟨W1,hW1⟩:∃W1,(W0.alloc (.deferred (some []))).alloc (.loop R0)=W1:=⟨_,rfl⟩
 have hs1:W1.heap.size=W0.heap.size+2:=by rw[←hW1];simp
 have ho1:∀k,k<W0.heap.size->W1.heap[k]? = W0.heap[k]?:=fun k hk=>by
  rw[←hW1];exact(Below.heap_alloc _ _ k (by simp;omega)).trans (Below.heap_alloc _ _ k hk)
 have hos1:W1.os=W0.os∧W1.tape=W0.tape∧W1.output=W0.output:=by rw[←hW1];exact⟨rfl,rfl,rfl⟩
 have hL1:W1.heap[W0.heap.size+1]? = some (.loop R0):=by
  rw[←hW1];have:=World.alloc_heap_new (W0.alloc (.deferred (some []))) (.loop R0);rwa[World.size_alloc]at this
 have hK1:W1.heap[W0.heap.size]? = some (.deferred (some [])):=by
  rw[←hW1];exact(Below.heap_alloc _ _ _ (by simp)).trans (World.alloc_heap_new W0 _)
 obtain⟨Wb,hWb⟩:∃Wb,W1.alloc (.cells #[.int .i64 1,.int .i64 r,.int .i64 v,.slice p3 n3 m3,.slice p4 n4 m4,.slice p5 n5 m5,.slice p 0 m] 81)=Wb:=⟨_,rfl⟩
 have hsb:Wb.heap.size=W1.heap.size+1:=by rw[←hWb];simp
 have hob:∀k,k<W1.heap.size->Wb.heap[k]? = W1.heap[k]?:=fun k hk=>by rw[←hWb];exact Below.heap_alloc _ _ k hk
 have hosb:Wb.os=W1.os∧Wb.tape=W1.tape∧Wb.output=W1.output:=by rw[←hWb];exact⟨rfl,rfl,rfl⟩
 have hbb:Wb.heap[W1.heap.size]? = some (.cells #[.int .i64 1,.int .i64 r,.int .i64 v,.slice p3 n3 m3,.slice p4 n4 m4,.slice p5 n5 m5,.slice p 0 m] 81 (0,0)):=by rw[←hWb];exact World.alloc_heap_new W1 _
 have hLb:Wb.heap[W0.heap.size+1]? = some (.loop R0):=(hob _ (by omega)).trans hL1
 have hB1b:Wb.heap[w.heap.size+1]? = some (.cells #[.slice none 0 0] 126 (0,0)):=((hob _ (by omega)).trans (ho1 _ (by omega))).trans hB1
 have hy:(Instr.yield (W0.heap.size+1) #[.agg #[.int .i64 1,.int .i64 r,.int .i64 v,.slice p3 n3 m3,.slice p4 n4 m4,.slice p5 n5 m5,.slice p 0 m]]).run Tryz.prog Wb = .ok (.round (W0.heap.size+1) fn #[.agg #[.int .i64 1,.int .i64 r,.int .i64 v,.slice p3 n3 m3,.slice p4 n4 m4,.slice p5 n5 m5,.slice p 0 m],.pointer (some ⟨w.heap.size,0,none⟩),.slice none 0 0,.pointer (some ⟨w.heap.size+1,0,none⟩),undef,.agg #[.int .i64 1,.int .i64 r,.int .i64 v,.slice p3 n3 m3,.slice p4 n4 m4,.slice p5 n5 m5,.slice p 0 m],.func (.func 163) #[] #[.pointer (some ⟨w.heap.size+1+1,0,none⟩)],.agg #[.int .i64 1,.int .i64 r,.int .i64 v,.slice p3 n3 m3,.slice p4 n4 m4,.slice p5 n5 m5,.slice p 0 m],undef,undef,undef,undef,undef,undef,undef,undef] zBK L8) Wb:=by
  have:=run_yield (P:=Tryz.prog) (args:=#[.agg #[.int .i64 1,.int .i64 r,.int .i64 v,.slice p3 n3 m3,.slice p4 n4 m4,.slice p5 n5 m5,.slice p 0 m]]) hLb (by rw[hR0];rfl)
  rw[hR0]at this
  simpa using this
 have hround:=zJD F (n-1-1-1) fn hfn (W0.heap.size+1) W0.heap.size w.heap.size (w.heap.size+1) (w.heap.size+1+1) r v p3 p4 p5 n3 m3 n4 m4 n5 m5 p m Wb (by simp[World.cell?,hB1b]) (by simp[World.frozen?,hB1b]) R0 (by rw[hR0]) hLb
 refine⟨W0.heap.size+1,[{ target:=.collected W0.heap.size,args:=#[] }],W1,{ target:=.fn (.func 163) #[.pointer (some ⟨w.heap.size+1+1,0,none⟩)],args:=#[.func (.yield (W0.heap.size+1)) #[] #[]] },W1,163,
  #[.func (.yield (W0.heap.size+1)) #[] #[],.pointer (some ⟨w.heap.size+1+1,0,none⟩)],W1,?_,?_,?_,?_,fun _=>by omega,?_⟩
 ·rw[←hW1,hR0];exact run_enterLoop_outer _ _ _ _ _
 ·simp[resolve,go_sem]
 ·intro f' hf';simp[Target.leads]at hf';subst hf';exact h3
 ·simp[invoke,go_sem]
 ·refine(zEG F (n-1) h3 h4 hro (by omega) (W0.heap.size+1) (w.heap.size+1+1) fn _ zBK L8 _ _ _ _ _ _ p m W1 ((ho1 _ (by omega)).trans hB2) (by rw[hWb];exact hy) (zNZ #[.int .i64 1,.int .i64 r,.int .i64 v,.slice p3 n3 m3,.slice p4 n4 m4,.slice p5 n5 m5,.slice p 0 m] (w.heap.size+1) (W0.heap.size+1) R0 Wb) (by
   rw[hWb]
   refine hround.mono ?_
   rintro e w' ⟨rfl,hJ⟩
   refine⟨rfl,?_,hJ⟩
   have hk:=(hJ.block W1.heap.size (by omega) (by omega) (by omega)).trans hbb
   simp[World.cell?,hk])).mono ?_
  rintro e W2 ⟨⟨u,rfl⟩,hJ⟩
  obtain⟨B,cap,rest,g0,g1,g2,g3⟩:=hJ.res
  have hend:=run_endLoop (P:=Tryz.prog) hJ.recd (by simp)
  obtain⟨W3,hW3⟩:∃W3,W2.putObj (W0.heap.size+1) (.loop { R0 with state:=.exhausted,pending:=none })=W3:=⟨_,rfl⟩
  have hend':(Instr.endLoop (W0.heap.size+1)).run Tryz.prog W2 = .ok none W3:=by rw[←hW3];exact hend
  have hl2:W0.heap.size+1<W2.heap.size:=(Array.getElem?_eq_some_iff.1 hJ.recd).1
  have hBl:B≠W0.heap.size+1:=by omega
  have hc3:W3.cell? ⟨w.heap.size+1,0,none⟩=some (.slice (some ⟨B,0,none⟩) 1 cap):=by rw[←hW3];exact(World.cell?_of_block (World.putObj_heap_other (k:=w.heap.size+1) (by omega))).trans g2
  have hK3:W3.heap[W0.heap.size]? = some (.deferred (some [])):=by
   rw[←hW3,World.putObj_heap_other (by omega),hJ.block _ (by omega) (by omega) (by omega),hob _ (by omega)];exact hK1
  have hold:∀k,k<w.heap.size->W3.heap[k]? = w.heap[k]?:=fun k hk=>by
   rw[←hW3,World.putObj_heap_other (by omega),hJ.block _ (by omega) (by omega) (by omega),hob _ (by omega),ho1 _ (by omega),ho0 _ hk]
  have hB3:W3.heap[B]? = some (.cells (#[.int .i64 1,.int .i64 r,.int .i64 v,.slice p3 n3 m3,.slice p4 n4 m4,.slice p5 n5 m5,.slice p 0 m]++rest) 81 (0,0)):=by
   rw[←hW3,World.putObj_heap_other hBl];exact g3
  have hos3:W3.os=w.os∧W3.tape=w.tape∧W3.output=w.output:=by
   refine⟨?_,?_,?_⟩
   ·rw[←hos0.1,←hos1.1,←hosb.1,←hJ.os,←hW3];rfl
   ·rw[←hos0.2.1,←hos1.2.1,←hosb.2.1,←hJ.tape,←hW3];rfl
   ·rw[←hos0.2.2,←hos1.2.2,←hosb.2.2,←hJ.output,←hW3];rfl
  have hs3:w.heap.size≤W3.heap.size:=by
   have:=hJ.size
   rw[←hW3,World.putObj_size];omega
  clear hW3 hend
  refine⟨none,W3,hend',?_⟩
  gi_wp2
  refine⟨by simp,.inl ⟨_,_,rfl,run_takeDeferred (hs0▸hK3),?_⟩⟩
  refine⟨_,results_tmp rfl _ _ _,B,cap,rest,rfl,g0,hos3.1,hos3.2.1,hos3.2.2,by rw[World.putObj_size];exact hs3,fun k hk=>?_,by omega,?_⟩
  ·rw[World.putObj_heap_other (by omega)];exact hold k hk
  ·rw[World.putObj_heap_other (by omega)];exact hB3
structure zOz (k j bm l:Nat) (R0:Loop) (W w':World):Prop where
 os:w'.os=W.os
 tape:w'.tape=W.tape
 output:w'.output=W.output
 size:W.heap.size≤w'.heap.size
 block:∀i,i<W.heap.size->i≠bm->i≠l->w'.heap[i]? = W.heap[i]?
 res:w'.heap[bm]? = some (.cells ((Array.replicate k (.bool false)).setIfInBounds j (.bool true)) 4 (0,0))
 recd:w'.heap[l]? = some (.loop { R0 with state:=.ready,pending:=none })
set_option maxRecDepth 100000 in
set_option maxHeartbeats 3200000 in
theorem zJE(F:Fence)(n:Nat)(fn:FuncId)(hfn:F.fn fn)(l b0 b5 bm b2:Nat)(k j:Nat)(hjk:j<k)(hk:k≤32)(v:Int)(p3 p4 p5:Option Addr)(n3 m3 n4 m4 n5 m5:Nat)(p:Option Addr)(m:Nat)(W:World)
  (hc1:W.cell? ⟨b5,0,none⟩=some (.slice (some ⟨bm,0,none⟩) k k)) (hm:W.heap[bm]? = some (.cells (Array.replicate k (.bool false)) 4 (0,0))) (R0:Loop) (hR:R0.state = .ready) (hL:W.heap[l]? = some (.loop R0)) :
  RoundIn F n Tryz.prog l fn #[.agg #[.int .i64 1,.int .i64 j,.int .i64 v,.slice p3 n3 m3,.slice p4 n4 m4,.slice p5 n5 m5,.slice p 0 m],.int .i64 k,.pointer (some ⟨b0,0,none⟩),undef,.slice none 0 0,.pointer (some ⟨b5,0,none⟩),undef,.int .i64 k,.int .i64 k,.int .i64 k,.slice (some ⟨bm,0,none⟩) k k,.agg #[.int .i64 1,.int .i64 j,.int .i64 v,.slice p3 n3 m3,.slice p4 n4 m4,.slice p5 n5 m5,.slice p 0 m],.func (.func 163) #[] #[.pointer (some ⟨b2,0,none⟩)],.agg #[.int .i64 1,.int .i64 j,.int .i64 v,.slice p3 n3 m3,.slice p4 n4 m4,.slice p5 n5 m5,.slice p 0 m],undef,undef,undef,undef,undef,undef,undef,undef,undef,undef,undef,undef,undef,undef,undef,undef,undef,undef,undef,undef,undef,undef,undef,undef,undef] zBL L9 W
   fun e w'=>e = .returned (.bool true)∧zOz k j bm l R0 W w':=by
 refine roundIn_of_wpIn hfn ?_
 unfold zBL
 gi_wp2_with (rw[Oper.semAt_eq _ _ _ (fun c h=>by cases h)];go_simp;try go_bits)
 have hl:l<W.heap.size:=(Array.getElem?_eq_some_iff.1 hL).1
 have hb1:b5<W.heap.size:=World.block_lt_of_cell? W ⟨b5,0,none⟩ hc1
 have hbm:bm<W.heap.size:=(Array.getElem?_eq_some_iff.1 hm).1
 have hml:bm≠l:=by rintro rfl;rw[hL]at hm;cases hm
 obtain⟨W1,hW1⟩:∃W1,W.alloc (.cells #[.int .i64 1,.int .i64 j,.int .i64 v,.slice p3 n3 m3,.slice p4 n4 m4,.slice p5 n5 m5,.slice p 0 m] 81)=W1:=⟨_,rfl⟩
 have hL1:W1.heap[l]? = some (.loop R0):=by rw[←hW1];exact(Below.heap_alloc _ _ l hl).trans hL
 have hbr:=run_beginRound (P:=Tryz.prog) hL1 hR
 rw[hW1]
 obtain⟨W2,hW2⟩:∃W2,W1.putObj l (.loop { R0 with state:=.busy })=W2:=⟨_,rfl⟩
 rw[hW2]at hbr
 refine⟨W2,hbr,?_⟩
 have hx:W2.heap[W.heap.size]? = some (.cells #[.int .i64 1,.int .i64 j,.int .i64 v,.slice p3 n3 m3,.slice p4 n4 m4,.slice p5 n5 m5,.slice p 0 m] 81 (0,0)):=by
  rw[←hW2,World.putObj_heap_other (by omega),←hW1];exact World.alloc_heap_new W _
 have hb1':W2.heap[b5]? = W.heap[b5]?:=by
  rw[←hW2,World.putObj_heap_other (by rintro rfl;simp[World.cell?,hL]at hc1),←hW1];exact Below.heap_alloc _ _ b5 hb1
 have hm2:W2.heap[bm]? = some (.cells (Array.replicate k (.bool false)) 4 (0,0)):=by
  rw[←hW2,World.putObj_heap_other hml,←hW1];exact(Below.heap_alloc _ _ bm hbm).trans hm
 have hc2:W2.cell? ⟨b5,0,none⟩=some (.slice (some ⟨bm,0,none⟩) k k):=(World.cell?_of_block hb1').trans hc1
 have d0:W2.cell? ⟨W.heap.size,0,none⟩=some (.int .i64 1):=by simp[World.cell?,hx]
 have d1:W2.cell? ⟨W.heap.size,1,none⟩=some (.int .i64 j):=by simp[World.cell?,hx]
 have e1:W2.cell? ⟨bm,j,none⟩=some (.bool false):=by simp[World.cell?,hm2,hjk]
 have e2:W2.frozen? ⟨bm,j,none⟩=false:=by simp[World.frozen?,hm2]
 have hj0:¬((j:Int)<0):=by omega
 have hjk':(j:Int)<k:=by omega
 have hj0':(0:Int)≤j:=by omega
 unfold L9
 gi_wp2_with (rw[Oper.semAt_eq _ _ _ (fun c h=>by cases h)];go_simp;try go_bits)
 have hl2:W2.heap[l]? = some (.loop { R0 with state:=.busy }):=by rw[←hW2];exact World.putObj_heap_same (Array.getElem?_eq_some_iff.1 hL1).1
 have hl2':l<W2.heap.size:=(Array.getElem?_eq_some_iff.1 hl2).1
 have hs2:W2.heap.size=W.heap.size+1:=by rw[←hW2,World.putObj_size,←hW1];simp
 obtain⟨W3,hW3⟩:∃W3,W2.setCell ⟨bm,j,none⟩ (.bool true)=W3:=⟨_,rfl⟩
 have hk3:∀i,i≠bm->W3.heap[i]? = W2.heap[i]?:=fun i hi=>by rw[←hW3];exact Below.heap_setCell _ _ _ i hi
 have hs3:W3.heap.size=W2.heap.size:=by rw[←hW3];simp
 have hm3:W3.heap[bm]? = some (.cells ((Array.replicate k (.bool false)).setIfInBounds j (.bool true)) 4 (0,0)):=by rw[←hW3];rw[heap_setCell_same W2 bm j _ 4 _ hm2];try rfl
 have hend:=run_endRound (P:=Tryz.prog) none ((hk3 l (Ne.symm hml)).trans hl2)
 rw[hW3]
 refine⟨_,_,hend,rfl,?_⟩
 refine⟨?_,?_,?_,?_,fun i hi hib hil=>?_,?_,?_⟩
 ·rw[←hW3,←hW2,←hW1];rfl
 ·rw[←hW3,←hW2,←hW1];rfl
 ·rw[←hW3,←hW2,←hW1];rfl
 ·rw[World.putObj_size];omega
 ·rw[World.putObj_heap_other hil,hk3 i hib,←hW2,World.putObj_heap_other hil,←hW1];exact Below.heap_alloc _ _ i hi
 ·rw[World.putObj_heap_other hml];exact hm3
 ·exact World.putObj_heap_same (by omega)
set_option maxRecDepth 100000 in
set_option maxHeartbeats 3200000 in
theorem zDn(F:Fence)(n:Nat)(h0:F.fn 99)(h1:F.fn 101)(h3:F.fn 163)(h4:F.fn 164)(hro:F.round=none)(hn:4≤n)(v:Int)(p3 p4 p5:Option Addr)(n3 m3 n4 m4 n5 m5:Nat)(p:Option Addr)(m:Nat)(k j:Nat)(hk:k≤32)(hjk:j<k)(w:World) :
  CallsIn F n Tryz.prog 99 #[.agg #[.int .i64 1,.int .i64 j,.int .i64 v,.slice p3 n3 m3,.slice p4 n4 m4,.slice p5 n5 m5,.slice p 0 m],.int .i64 k] w fun e w'=>∃B,e = .returned (.slice (some ⟨B,0,none⟩) k k) ∧
   w'.os=w.os∧w'.tape=w.tape∧w'.output=w.output∧w.heap.size≤w'.heap.size∧(∀k,k<w.heap.size->w'.heap[k]? = w.heap[k]?)∧w.heap.size≤B ∧
   w'.heap[B]? = some (.cells ((Array.replicate k (.bool false)).setIfInBounds j (.bool true)) 4 (0,0)):=by
 have hn1:1≤n:=by omega
 have hb4:(Tryz.t4.bytes:Int)=1:=by kernel_rfl
 have hmk:∀w:World,(Instr.makeSlice 199 (.int .i64 k) (.int .i64 k)).run Tryz.prog w = .ok (.slice (some ⟨w.heap.size,0,none⟩) k k) (w.alloc (.cells (Array.replicate k (.bool false)) 4)):=fun w=>by
  have:=run_make (P:=Tryz.prog) w 199 4 Tryz.t4 (.bool false) Tryz.underlying199 (by kernel_rfl) (by kernel_rfl) .i64 .i64 k k (by omega) (Int.le_refl _) (by rw[hb4];omega) (by omega)
  rw[this]
  have e:madeCells (Value.bool false).cells ((k:Int).toNat*Tryz.t4.size)=Array.replicate k (.bool false):=by
   have:Tryz.t4.size=1:=by kernel_rfl
   rw[this]
   apply Array.ext (by simp[size_madeCells])
   intro i h1 h2
   have hc:(Value.bool false).cells = #[.bool false]:=rfl
   simp[madeCells,hc,Nat.mod_one]
  rw[e];rfl
 have hmin:min (k:Int) 32=k:=by omega
 have hmax:max 0 (k:Int)=k:=by omega
 refine callsIn_of_wp_marks Tryz.func99 rfl h0 ?_ hro
 simp only[Tryz.ntmps99,List.size_toArray,List.length_cons,List.length_nil,Nat.reduceAdd,Nat.reduceSub,Array.replicate_succ,Array.replicate_zero,List.push_toArray,List.append_toArray,List.nil_append,List.cons_append]
 gi_wp2_with (gi_at_call 101;refine(zBJ F (n-1) h1 hro _ _).mono ?_;rintro e w' ⟨rfl,rfl⟩)
 obtain⟨W0,hW0⟩:∃W0,(((w.alloc (.cells #[.int .i64 1,.int .i64 j,.int .i64 v,.slice p3 n3 m3,.slice p4 n4 m4,.slice p5 n5 m5,.slice p 0 m] 81)).alloc (.cells (Array.replicate k (.bool false)) 4)).alloc (.cells #[.slice (some ⟨w.heap.size+1,0,none⟩) k k] 199)).alloc (.cells #[.int .i64 1,.int .i64 j,.int .i64 v,.slice p3 n3 m3,.slice p4 n4 m4,.slice p5 n5 m5,.slice p 0 m] 81)=W0:=⟨_,rfl⟩
 have hs0:W0.heap.size=w.heap.size+4:=by rw[←hW0];simp
 have hBm:W0.heap[w.heap.size+1]? = some (.cells (Array.replicate k (.bool false)) 4 (0,0)):=by
  rw[←hW0];refine((Below.heap_alloc _ _ _ (by simp)).trans (Below.heap_alloc _ _ _ (by simp))).trans ?_
  have:=World.alloc_heap_new (w.alloc (.cells #[.int .i64 1,.int .i64 j,.int .i64 v,.slice p3 n3 m3,.slice p4 n4 m4,.slice p5 n5 m5,.slice p 0 m] 81)) (.cells (Array.replicate k (.bool false)) 4);rwa[World.size_alloc]at this
 have hB5:W0.heap[w.heap.size+1+1]? = some (.cells #[.slice (some ⟨w.heap.size+1,0,none⟩) k k] 199 (0,0)):=by
  rw[←hW0];refine(Below.heap_alloc _ _ _ (by simp)).trans ?_
  have:=World.alloc_heap_new ((w.alloc (.cells #[.int .i64 1,.int .i64 j,.int .i64 v,.slice p3 n3 m3,.slice p4 n4 m4,.slice p5 n5 m5,.slice p 0 m] 81)).alloc (.cells (Array.replicate k (.bool false)) 4)) (.cells #[.slice (some ⟨w.heap.size+1,0,none⟩) k k] 199);rwa[World.size_alloc,World.size_alloc]at this
 have hB2:W0.heap[w.heap.size+1+1+1]? = some (.cells #[.int .i64 1,.int .i64 j,.int .i64 v,.slice p3 n3 m3,.slice p4 n4 m4,.slice p5 n5 m5,.slice p 0 m] 81 (0,0)):=by
  rw[←hW0];have:=World.alloc_heap_new (((w.alloc (.cells #[.int .i64 1,.int .i64 j,.int .i64 v,.slice p3 n3 m3,.slice p4 n4 m4,.slice p5 n5 m5,.slice p 0 m] 81)).alloc (.cells (Array.replicate k (.bool false)) 4)).alloc (.cells #[.slice (some ⟨w.heap.size+1,0,none⟩) k k] 199)) (.cells #[.int .i64 1,.int .i64 j,.int .i64 v,.slice p3 n3 m3,.slice p4 n4 m4,.slice p5 n5 m5,.slice p 0 m] 81);rwa[World.size_alloc,World.size_alloc,World.size_alloc]at this
 have ho0:∀i,i<w.heap.size->W0.heap[i]? = w.heap[i]?:=fun i hi=>by
  rw[←hW0];exact(((Below.heap_alloc _ _ i (by simp;omega)).trans (Below.heap_alloc _ _ i (by simp;omega))).trans (Below.heap_alloc _ _ i (by simp;omega))).trans (Below.heap_alloc _ _ i hi)
 have hos0:W0.os=w.os∧W0.tape=w.tape∧W0.output=w.output:=by rw[←hW0];exact⟨rfl,rfl,rfl⟩
 rw[hW0]
 refine wpIn_rangeFunc ?_
 intro fn hfn
 rw[hro]
 obtain⟨R0,hR0⟩:∃R0:Loop,R0 = { state:=.ready,pending:=none,fn,tmps:=#[.agg #[.int .i64 1,.int .i64 j,.int .i64 v,.slice p3 n3 m3,.slice p4 n4 m4,.slice p5 n5 m5,.slice p 0 m],.int .i64 k,.pointer (some ⟨w.heap.size,0,none⟩),undef,.slice none 0 0,.pointer (some ⟨w.heap.size+1+1,0,none⟩),undef,.int .i64 k,.int .i64 k,.int .i64 k,.slice (some ⟨w.heap.size+1,0,none⟩) k k,.agg #[.int .i64 1,.int .i64 j,.int .i64 v,.slice p3 n3 m3,.slice p4 n4 m4,.slice p5 n5 m5,.slice p 0 m],.func (.func 163) #[] #[.pointer (some ⟨w.heap.size+1+1+1,0,none⟩)],undef,undef,undef,undef,undef,undef,undef,undef,undef,undef,undef,undef,undef,undef,undef,undef,undef,undef,undef,undef,undef,undef,undef,undef,undef,undef],params:=#[13],assign:=zBL,body:=L9,defers:=W0.heap.size }:=⟨_,rfl⟩
 obtain⟨W1,hW1⟩:∃W1,(W0.alloc (.deferred (some []))).alloc (.loop R0)=W1:=⟨_,rfl⟩
 have hs1:W1.heap.size=W0.heap.size+2:=by rw[←hW1];simp
 have ho1:∀i,i<W0.heap.size->W1.heap[i]? = W0.heap[i]?:=fun i hi=>by
  rw[←hW1];exact(Below.heap_alloc _ _ i (by simp;omega)).trans (Below.heap_alloc _ _ i hi)
 have hos1:W1.os=W0.os∧W1.tape=W0.tape∧W1.output=W0.output:=by rw[←hW1];exact⟨rfl,rfl,rfl⟩
 have hL1:W1.heap[W0.heap.size+1]? = some (.loop R0):=by
  rw[←hW1];have:=World.alloc_heap_new (W0.alloc (.deferred (some []))) (.loop R0);rwa[World.size_alloc]at this
 have hK1:W1.heap[W0.heap.size]? = some (.deferred (some [])):=by
  rw[←hW1];exact(Below.heap_alloc _ _ _ (by simp)).trans (World.alloc_heap_new W0 _)
 obtain⟨Wb,hWb⟩:∃Wb,W1.alloc (.cells #[.int .i64 1,.int .i64 j,.int .i64 v,.slice p3 n3 m3,.slice p4 n4 m4,.slice p5 n5 m5,.slice p 0 m] 81)=Wb:=⟨_,rfl⟩
 have hsb:Wb.heap.size=W1.heap.size+1:=by rw[←hWb];simp
 have hob:∀i,i<W1.heap.size->Wb.heap[i]? = W1.heap[i]?:=fun i hi=>by rw[←hWb];exact Below.heap_alloc _ _ i hi
 have hosb:Wb.os=W1.os∧Wb.tape=W1.tape∧Wb.output=W1.output:=by rw[←hWb];exact⟨rfl,rfl,rfl⟩
 have hbb:Wb.heap[W1.heap.size]? = some (.cells #[.int .i64 1,.int .i64 j,.int .i64 v,.slice p3 n3 m3,.slice p4 n4 m4,.slice p5 n5 m5,.slice p 0 m] 81 (0,0)):=by rw[←hWb];exact World.alloc_heap_new W1 _
 have hLb:Wb.heap[W0.heap.size+1]? = some (.loop R0):=(hob _ (by omega)).trans hL1
 have hB5b:Wb.heap[w.heap.size+1+1]? = some (.cells #[.slice (some ⟨w.heap.size+1,0,none⟩) k k] 199 (0,0)):=((hob _ (by omega)).trans (ho1 _ (by omega))).trans hB5
 have hBmb:Wb.heap[w.heap.size+1]? = some (.cells (Array.replicate k (.bool false)) 4 (0,0)):=((hob _ (by omega)).trans (ho1 _ (by omega))).trans hBm
 have hy:(Instr.yield (W0.heap.size+1) #[.agg #[.int .i64 1,.int .i64 j,.int .i64 v,.slice p3 n3 m3,.slice p4 n4 m4,.slice p5 n5 m5,.slice p 0 m]]).run Tryz.prog Wb = .ok (.round (W0.heap.size+1) fn #[.agg #[.int .i64 1,.int .i64 j,.int .i64 v,.slice p3 n3 m3,.slice p4 n4 m4,.slice p5 n5 m5,.slice p 0 m],.int .i64 k,.pointer (some ⟨w.heap.size,0,none⟩),undef,.slice none 0 0,.pointer (some ⟨w.heap.size+1+1,0,none⟩),undef,.int .i64 k,.int .i64 k,.int .i64 k,.slice (some ⟨w.heap.size+1,0,none⟩) k k,.agg #[.int .i64 1,.int .i64 j,.int .i64 v,.slice p3 n3 m3,.slice p4 n4 m4,.slice p5 n5 m5,.slice p 0 m],.func (.func 163) #[] #[.pointer (some ⟨w.heap.size+1+1+1,0,none⟩)],.agg #[.int .i64 1,.int .i64 j,.int .i64 v,.slice p3 n3 m3,.slice p4 n4 m4,.slice p5 n5 m5,.slice p 0 m],undef,undef,undef,undef,undef,undef,undef,undef,undef,undef,undef,undef,undef,undef,undef,undef,undef,undef,undef,undef,undef,undef,undef,undef,undef] zBL L9) Wb:=by
  have:=run_yield (P:=Tryz.prog) (args:=#[.agg #[.int .i64 1,.int .i64 j,.int .i64 v,.slice p3 n3 m3,.slice p4 n4 m4,.slice p5 n5 m5,.slice p 0 m]]) hLb (by rw[hR0];rfl)
  rw[hR0]at this
  simpa using this
 have hround:=zJE F (n-1-1-1) fn hfn (W0.heap.size+1) w.heap.size (w.heap.size+1+1) (w.heap.size+1) (w.heap.size+1+1+1) k j hjk hk v p3 p4 p5 n3 m3 n4 m4 n5 m5 p m Wb (by simp[World.cell?,hB5b]) hBmb R0 (by rw[hR0]) hLb
 refine⟨W0.heap.size+1,[{ target:=.collected W0.heap.size,args:=#[] }],W1,{ target:=.fn (.func 163) #[.pointer (some ⟨w.heap.size+1+1+1,0,none⟩)],args:=#[.func (.yield (W0.heap.size+1)) #[] #[]] },W1,163,
  #[.func (.yield (W0.heap.size+1)) #[] #[],.pointer (some ⟨w.heap.size+1+1+1,0,none⟩)],W1,?_,?_,?_,?_,fun _=>by omega,?_⟩
 ·rw[←hW1,hR0];exact run_enterLoop_outer _ _ _ _ _
 ·simp[resolve,go_sem]
 ·intro f' hf';simp[Target.leads]at hf';subst hf';exact h3
 ·simp[invoke,go_sem]
 ·refine(zEG F (n-1) h3 h4 hro (by omega) (W0.heap.size+1) (w.heap.size+1+1+1) fn _ zBL L9 _ _ _ _ _ _ p m W1 ((ho1 _ (by omega)).trans hB2) (by rw[hWb];exact hy) (zOz k j (w.heap.size+1) (W0.heap.size+1) R0 Wb) (by
   rw[hWb]
   refine hround.mono ?_
   rintro e w' ⟨rfl,hJ⟩
   refine⟨rfl,?_,hJ⟩
   have hk:=(hJ.block W1.heap.size (by omega) (by omega) (by omega)).trans hbb
   simp[World.cell?,hk])).mono ?_
  rintro e W2 ⟨⟨u,rfl⟩,hJ⟩
  have hend:=run_endLoop (P:=Tryz.prog) hJ.recd (by simp)
  obtain⟨W3,hW3⟩:∃W3,W2.putObj (W0.heap.size+1) (.loop { R0 with state:=.exhausted,pending:=none })=W3:=⟨_,rfl⟩
  have hend':(Instr.endLoop (W0.heap.size+1)).run Tryz.prog W2 = .ok none W3:=by rw[←hW3];exact hend
  have hl2:W0.heap.size+1<W2.heap.size:=(Array.getElem?_eq_some_iff.1 hJ.recd).1
  have hc3:W3.cell? ⟨w.heap.size+1+1,0,none⟩=some (.slice (some ⟨w.heap.size+1,0,none⟩) k k):=by
   have hk:=(hJ.block (w.heap.size+1+1) (by omega) (by omega) (by omega)).trans hB5b
   rw[←hW3];exact(World.cell?_of_block (World.putObj_heap_other (k:=w.heap.size+1+1) (by omega))).trans (by simp[World.cell?,hk])
  have hK3:W3.heap[W0.heap.size]? = some (.deferred (some [])):=by
   rw[←hW3,World.putObj_heap_other (by omega),hJ.block _ (by omega) (by omega) (by omega),hob _ (by omega)];exact hK1
  have hold:∀i,i<w.heap.size->W3.heap[i]? = w.heap[i]?:=fun i hi=>by
   rw[←hW3,World.putObj_heap_other (by omega),hJ.block _ (by omega) (by omega) (by omega),hob _ (by omega),ho1 _ (by omega),ho0 _ hi]
  have hB3:W3.heap[w.heap.size+1]? = some (.cells ((Array.replicate k (.bool false)).setIfInBounds j (.bool true)) 4 (0,0)):=by
   rw[←hW3,World.putObj_heap_other (by omega)];exact hJ.res
  have hos3:W3.os=w.os∧W3.tape=w.tape∧W3.output=w.output:=by
   refine⟨?_,?_,?_⟩
   ·rw[←hos0.1,←hos1.1,←hosb.1,←hJ.os,←hW3];rfl
   ·rw[←hos0.2.1,←hos1.2.1,←hosb.2.1,←hJ.tape,←hW3];rfl
   ·rw[←hos0.2.2,←hos1.2.2,←hosb.2.2,←hJ.output,←hW3];rfl
  have hs3:w.heap.size≤W3.heap.size:=by
   have:=hJ.size
   rw[←hW3,World.putObj_size];omega
  clear hW3 hend
  refine⟨none,W3,hend',?_⟩
  gi_wp2
  refine⟨by simp,.inl ⟨_,_,rfl,run_takeDeferred (hs0▸hK3),?_⟩⟩
  refine⟨_,results_tmp rfl _ _ _,w.heap.size+1,rfl,hos3.1,hos3.2.1,hos3.2.2,by rw[World.putObj_size];exact hs3,fun i hi=>?_,by omega,?_⟩
  ·rw[World.putObj_heap_other (by omega)];exact hold i hi
  ·rw[World.putObj_heap_other (by omega)];exact hB3
end Go.Proofs.YthncfoeaibgmnaaGreat
namespace Go.Ab
open Go Go.RowKit
theorem yS.grown{G:Gh}{σ:wL}{w w':World}(h:yS G σ w)(hk:wP (fun k=>k<w.heap.size) w w'){B:Nat}(hB:w.heap.size≤B)(cs:List AV)(vs:List Value)(rest:Array Value)(T:TypeId)(hv:VL G w cs vs)
  (hb:w'.heap[B]? = some (.cells (vs.toArray++rest) T (0,0))):wK G w (G.addL B 0 vs.length) w'∧yS (G.addL B 0 vs.length) σ w'∧VC (G.addL B 0 vs.length) w' cs B 0:=by
 have hcell:∀i (hi:i<vs.length),w'.cell? ⟨B,i,none⟩=some vs[i]:=by
  intro i hi
  have:(vs.toArray++rest)[i]? = some vs[i]:=by
   rw[Array.getElem?_append_left (by simpa using hi)];simp[hi]
  simp[World.cell?,hb,this]
 have hold:∀ {b:Nat},b<w.heap.size->w'.heap[b]? = w.heap[b]?:=fun hlt=>hk.block _ hlt
 have hE:wK G w (G.addL B 0 vs.length) w':=⟨fun _ _ e=>e,fun _ _ e=>e,fun _ _ e=>.inl e,
  fun b o e=>World.cell?_of_block (hold (h.L_lt e)),rfl,rfl,fun _ _ e=>e.elim .inl fun q=>.inr (by rw[q.1];exact fun hF=>absurd (h.base _ hF) (by omega)),fun _ _ _ _ r=>r.same (hold r.lt),fun _ e=>e⟩
 refine⟨hE,⟨h.dom,h.fin,h.inj,?_,?_,h.τns,?_,h.ownd,h.below.trans (hk.mono fun k hF=>h.base k hF),fun k hF=>Nat.lt_of_lt_of_le (h.base k hF) hk.size⟩,?_⟩
 ·intro i b X hi hX
  obtain⟨h1,h3⟩:=h.blk i b X hi hX
  exact⟨h1,wW.mono hE (hold (h.ρ_lt hi)) h3⟩
 ·intro b o hL
  rcases hL with hL|⟨rfl,_,hlt⟩
  ·obtain⟨⟨v,hv⟩,h2⟩:=h.live b o hL
   exact⟨⟨v,(World.cell?_of_block (hold (h.L_lt hL))).trans hv⟩,h2⟩
  ·exact⟨⟨_,hcell o (by omega)⟩,fun i hi=>by have:=h.ρ_lt hi;omega⟩
 ·intro k hk'
  obtain⟨b,f,t,h1,h2|⟨h2,h3,h4,vs',T',h5,h6⟩⟩:=h.own k hk'
  ·exact⟨b,f,t,h1,.inl h2⟩
  have hlt:b<w.heap.size:=(Array.getElem?_eq_some_iff.1 h5).1
  refine⟨b,f,t,h1,.inr ⟨h2,h3,fun o ho ht hL=>?_,vs',T',(hold hlt).trans h5,h6⟩⟩
  rcases hL with hL|⟨e,_,_⟩
  ·exact h4 o ho ht hL
  ·omega
 ·refine VC.of_cells cs vs _ _ (VL.mono hE _ _ hv) (fun i hi=>.inr ⟨rfl,Nat.zero_le _,by omega⟩) (fun i hi=>?_)
  simpa using hcell i hi
theorem p7{G:Gh}{w:World}{es:List AV}{n:Nat}{o:uI}{u:Value}(h:V G w (.sl es n o) u):∃p c,u = .slice p n c:=by
 simp only[V]at h
 obtain⟨cap,-,⟨-,h1,-,h2,-⟩|⟨b,off,h2,-⟩⟩:=h
 ·subst h1;exact⟨_,_,h2⟩
 ·exact⟨_,_,h2⟩
end Go.Ab
namespace Go.Proofs.YthncfoeaibgmnaaGreat
open Go Go.Ab Go.Proofs.Tryz
theorem zBM{G:Gh}{w:World}{t:yF}{u:Value}(hk:t.kids_.length=0)(h:V G w (wD t) u):∃(p3 p4 p5 p:Option Addr) (n3 m3 n4 m4 n5 m5 m:Nat),
  u = .agg #[.int .i64 t.kind_,.int .i64 t.row_,.int .i64 t.var_,.slice p3 n3 m3,.slice p4 n4 m4,.slice p5 n5 m5,.slice p 0 m]∧VL G w (uG t) [.int .i64 t.kind_,.int .i64 t.row_,.int .i64 t.var_,.slice p3 n3 m3,.slice p4 n4 m4,.slice p5 n5 m5,.slice p 0 m]:=by
 unfold wD at h
 rw[V]at h
 obtain⟨vs,rfl,h⟩:=h
 have h':=h
 unfold uG at h
 have hl:=VL.length _ _ h
 obtain⟨v0,v1,v2,v3,v4,v5,v6,rfl⟩:∃a b c d e f g,vs=[a,b,c,d,e,f,g]:=by
  rcases vs with _|⟨a,_|⟨b,_|⟨c,_|⟨d,_|⟨e,_|⟨f,_|⟨g,_|⟨z,zs⟩⟩⟩⟩⟩⟩⟩⟩<;>simp at hl
  exact⟨a,b,c,d,e,f,g,rfl⟩
 simp only[VL,and_true]at h
 obtain⟨h0,h1,h2,h3,h4,h5,h6⟩:=h
 obtain⟨p3,m3,rfl⟩:=p7 h3
 obtain⟨p4,m4,rfl⟩:=p7 h4
 obtain⟨p5,m5,rfl⟩:=p7 h5
 obtain⟨p,m,e6⟩:=p7 h6
 rw[hk]at e6
 subst e6
 simp only[ai,V]at h0 h1 h2
 subst h0 h1 h2
 exact⟨p3,p4,p5,p,_,m3,_,m4,_,m5,m,rfl,h'⟩
theorem zRi{t:yF}(hk:t.kids_.length=0)(h1:t.kind_=1):wZ prog 50 [] [wD t] (.sl (zF wM [t]) 1 .no) [] 0:=by
 intro G0 W cargs hB hR hv
 obtain⟨cl⟩:=cargs
 rcases cl with _|⟨u,_|⟨z,zs⟩⟩
 ·exact hv.elim
 ·obtain⟨hu,-⟩:=hv
  obtain⟨p3,p4,p5,p,n3,m3,n4,m4,n5,m5,m,rfl,hvl⟩:=zBM hk hu
  rw[h1]at hvl ⊢
  have hc:=callsIn_wide.1 (zGi Fence.wide 4 trivial trivial trivial trivial rfl (Nat.le_refl _) t.row_ t.var_ p3 p4 p5 n3 m3 n4 m4 n5 m5 p m W)
  refine hc.mono ?_
  rintro e w' ⟨B,cap,rest,rfl,a0,a1,a2,a3,a4,a5,a6,a7⟩
  obtain⟨hE,hR',hV⟩:=hR.grown ⟨a1,a2,a3,a4,a5⟩ a6 (uG t) [.int .i64 1,.int .i64 t.row_,.int .i64 t.var_,.slice p3 n3 m3,.slice p4 n4 m4,.slice p5 n5 m5,.slice p 0 m] rest 81 hvl a7
  refine⟨_,_,gA [],rfl,hE,hR',?_,fun i X h=>by simp at h,fun k hk=>by omega⟩
  simp only[V]
  refine⟨cap,a0,.inr ⟨B,0,rfl,?_,trivial⟩⟩
  have hf:zF wM [t]=uG t:=by rw[←sF];simp[zF]
  rw[hf];exact hV
 ·exact hv.2.elim
theorem zVh{t:yF}(hk:t.kids_.length=0)(h1:t.kind_=1):CT prog 50 [] [wD t] (.sl (zF wM [t]) 1 .no) [] 0:=
 ⟨zRi hk h1,⟨⟨trivial,trivial,trivial,⟨trivial,zE _⟩,⟨trivial,dT _⟩,⟨trivial,dT _⟩,⟨trivial,zM _⟩,trivial⟩,trivial⟩,fun _ h=>(nomatch h),tM _,fun _ h=>(nomatch h)⟩
theorem zNt(l:List Bool):zF boC l=l.map ab:=by
 induction l with
 |nil=>rfl
 |cons b l ih=>simp only[zF,List.flatMap_cons]at ih ⊢;rw[ih];rfl
theorem zOy{G:Gh}{w:World}:∀l:List Bool,VL G w (l.map ab) (l.map .bool)
 | []=>trivial
 |b::l=>⟨rfl,zOy l⟩
theorem zRh{t:yF}(hk:t.kids_.length=0)(h1:t.kind_=1){k j:Nat}(hj:t.row_=j)(hjk:j<k)(hk32:k≤32):wZ prog 99 [] [wD t,ai k] (.sl (zF boC ((List.replicate k false).set j true)) k .no) [] 0:=by
 intro G0 W cargs hB hR hv
 obtain⟨cl⟩:=cargs
 rcases cl with _|⟨u,_|⟨u2,_|⟨z,zs⟩⟩⟩
 ·exact hv.elim
 ·exact hv.2.elim
 ·obtain⟨hu,hu2,-⟩:=hv
  simp only[ai,V]at hu2
  subst hu2
  obtain⟨p3,p4,p5,p,n3,m3,n4,m4,n5,m5,m,rfl,hvl⟩:=zBM hk hu
  rw[h1,hj]at hvl ⊢
  have hc:=callsIn_wide.1 (zDn Fence.wide 4 trivial trivial trivial trivial rfl (Nat.le_refl _) t.var_ p3 p4 p5 n3 m3 n4 m4 n5 m5 p m k j hk32 hjk W)
  refine hc.mono ?_
  rintro e w' ⟨B,rfl,a1,a2,a3,a4,a5,a6,a7⟩
  have e7:(Array.replicate k (Value.bool false)).setIfInBounds j (.bool true)=(((List.replicate k false).set j true).map Value.bool).toArray ++ #[]:=by
   apply Array.ext'
   simp[List.map_set]
  rw[e7]at a7
  obtain⟨hE,hR',hV⟩:=hR.grown ⟨a1,a2,a3,a4,a5⟩ a6 (((List.replicate k false).set j true).map ab) (((List.replicate k false).set j true).map .bool) #[] 4 (zOy _) a7
  refine⟨_,_,gA [],rfl,hE,hR',?_,fun i X h=>by simp at h,fun k hk=>by omega⟩
  simp only[V]
  refine⟨k,Nat.le_refl _,.inr ⟨B,0,rfl,?_,trivial⟩⟩
  rw[zNt];exact hV
 ·exact hv.2.2.elim
theorem zVg{t:yF}(hk:t.kids_.length=0)(h1:t.kind_=1){k:Int}{j:Nat}(hj:t.row_=j)(hjk:(j:Int)<k)(hk32:k≤32):CT prog 99 [] [wD t,ai k] (.sl (zF boC ((List.replicate k.toNat false).set j true)) ((List.replicate k.toNat false).set j true).length .no) [] 0:=by
 obtain⟨n,rfl⟩:∃n:Nat,k=n:=⟨k.toNat,by omega⟩
 have:=zRh hk h1 hj (k:=n) (by omega) (by omega)
 refine⟨by simpa using this,⟨⟨trivial,trivial,trivial,⟨trivial,zE _⟩,⟨trivial,dT _⟩,⟨trivial,dT _⟩,⟨trivial,zM _⟩,trivial⟩,trivial,trivial⟩,fun _ h=>(nomatch h),dB _,fun _ h=>(nomatch h)⟩
def e99(_qq:Nat)(a:yF)(b:Int):Option (List Bool):=if a.kids_.length=0∧a.kind_=1∧0≤a.row_∧a.row_<b∧b≤32 then some ((List.replicate b.toNat false).set a.row_.toNat true)else none
theorem c99{c:Nat}{a:yF}{b:Int}{r:List Bool}(h:e99 c a b=some r):CT prog 99 [] [wD a,ai b] (.sl (zF boC r) r.length .no) [] 0:=by
 unfold e99 at h
 split at h
 ·obtain rfl:=(Option.some.inj h).symm
  exact zVg (by omega) (by omega) (by omega) (by omega) (by omega)
 ·cases h
def mC:Nat->yD->yD->xS->zU->zU->(List (List zK))->(yF×Int×Int×Int×Int×Int)->List Bool->Int->Option (yF×uW×Int×Int)
 |0,_,_,_,_,_,_,_,_,_=>none
 |q+1,e,f,g,m,n,d,r14,r17,p=>
 if decide (p<(r17.length:Int))then
 yG r17 p>>=fun x20=>
 if x20 then
 mC q e f g m n d r14 r17 (xE (p+1))
 else
 uR d.length p>>=fun x23=>
 yG d (x23:Int)>>=fun x25=>
 zQE q x25>>=fun r27=>
 some ((yF.mk 0 0 0 [] [] [] []),(uW.mk 11 p r27),r14.2.2.2.2.1,r14.2.2.2.2.2)
 else
 some (r14.1,(uW.mk 0 0 0),r14.2.2.2.2.1,r14.2.2.2.2.2)
def p8(q:Nat)(e f:yD)(g:xS)(m n:zU)(s:zW)(d:List (List zK))(t u:Int):Option (yF×uW×Int×Int):=
 s4 q e f g m n s d>>=fun r1=>
 if r1 then
 if decide ((s.length:Int)>24)then
 none
 else
 if decide ((d.length:Int)>32)then
 none
 else
 e55 q s 0>>=fun r6=>
 if r6.2 != 0 then
 none
 else
 e97 q r6.1>>=fun r9=>
 if r9 then
 e58 q r6.1>>=fun r12=>
 fR q e f g m n t u d 0 0 0 (wJ.mk r6.1 r12)>>=fun r14=>
 if !((r14.2.1==0)&&((r14.2.2.1==0)&&(r14.2.2.2.1==0)))then
 some ((yF.mk 0 0 0 [] [] [] []),(uW.mk r14.2.1 r14.2.2.1 r14.2.2.2.1),r14.2.2.2.2.1,r14.2.2.2.2.2)
 else
 e99 q r14.1 (d.length:Int)>>=fun r17=>
 mC q e f g m n d r14 r17 0
 else
 none
 else
 none
theorem zEH:Qf 49 f49:=⟨func49,rfl⟩
theorem zDm:∀q:Nat,(∀ {e f g m n d r14 r17 p r},mC q e f g m n d r14 r17 p=some r->(∀j,dL 4 (pt 16777141 f49) (sp j 92 0 [(2,.ms 2 0 d.length d.length 1),(8,.mp 4 0),(9,.mp 5 0),(13,.mp 6 0),(72,zH boC r17 .no),(73,ai (r17.length:Int)),(74,ai p)]) (⟨[(0,qB e 1 m n),(1,qR f g),(2,.row (zF (yO zI) d)),(3,.cells [ai r14.2.2.2.2.1,ai r14.2.2.2.2.2]),(4,.cells [ai 0,ai 0,ai 0,zH zJ ([]:xN) .nl,zH zC ([]:zW) .nl,zH zC ([]:zW) .nl,zH zV ([]:List zY) .nl]),(5,.cells [ai 0,ai 0,ai 0]),(6,.cells [ai r14.1.kind_,ai r14.1.row_,ai r14.1.var_,zH zJ r14.1.vars_ .no,zH zC r14.1.binds_ .no,zH zC r14.1.args_ .no,zH zV r14.1.kids_ .no])],7,[],0,[]⟩) (fQ 4 (nQ 4 f49 (.tup [wD r.1,dN r.2.1]) [qB e 1 m n,qR f g,.row (zF (yO zI) d),.cells [ai r.2.2.1,ai r.2.2.2]] 0) [.blk 0,.seq (pt 262143 f49)]))):=by
 intro q
 induction q with
 |zero=>
  exact fun h=>nn h
 |succ q ih=>
  intro e f g m n d r14 r17 p r h
  rw[mC]at h
  obtain⟨h19,h⟩|⟨h19,h⟩:=xA h
  obtain⟨x20,h21,h⟩:=zD h
  have k:=oA 0 (zSL (o:=.no) h21)<|oB 0 h19 o0
  obtain⟨h22,h⟩|⟨h22,h⟩:=xA h
  exact fun j=>lH 2 [] [0,1,2,3,4,5,6] [] [2,8,9,13,72,73,74] (oD (dB r17)<|oD (zM r14.1.kids_)<|oD (dT r14.1.args_)<|oD (dT r14.1.binds_)<|oD (zE r14.1.vars_)<|oD (zM ([]:List zY))<|oD (dT ([]:zW))<|oD (dT ([]:zW))<|oD (zE ([]:xN))<|oD ((yP zG) d)<|wS e f g m n<|oB 0 h22 k) (ih h)
  obtain⟨x23,h24,h⟩:=zD h
  obtain⟨x25,h26,h⟩:=zD h
  obtain⟨r27,h28,h⟩:=zD h
  cases h
  exact fun j=>lF 2 [0,1,2,3] (oD (zM ([]:List zY))<|oD (dT ([]:zW))<|oD (dT ([]:zW))<|oD (zE ([]:xN))<|oD ((yP zG) d)<|wS e f g m n<|oC 0 [] (zXR h28)<|oG (a:=(zH zI x25 .no)) 0 (U1 (xQ zG) h26 (false,1) (val:=zH zI x25 .no) rfl)<|oA 1 (U7 (b:=2) (c:=List.length d) (z:=1) h24)<|oB 0 h22 k)
  cases h
  exact fun j=>lF 3 [0,1,2,3] (oD (zM r14.1.kids_)<|oD (dT r14.1.args_)<|oD (dT r14.1.binds_)<|oD (zE r14.1.vars_)<|oD ((yP zG) d)<|wS e f g m n<|oB 0 h19 o0)
theorem zNs{q e f g m n s d t u r}(h:p8 q e f g m n s d t u=some r):Ct 49 [qB e 1 m n,qR f g,.row (zF (yO zI) d),.cells [ai t,ai u]] [.mp 0 0,zH zC s .no,.ms 2 0 d.length d.length 1,.mp 3 0] (.tup [wD r.1,dN r.2.1]) [qB e 1 m n,qR f g,.row (zF (yO zI) d),.cells [ai r.2.2.1,ai r.2.2.2]] 0:=⟨by
 unfold p8 at h
 obtain⟨r1,h2,h⟩:=zD h
 obtain⟨h3,h⟩:=xD h
 have k:=oK 0 [0,1,2] h3 (zMD h2) o0
 obtain⟨h4,h⟩:=zT h
 have k:=oB 2 h4 k
 obtain⟨h5,h⟩:=zT h
 obtain⟨r6,h7,h⟩:=zD h
 have k:=oC 0 [] (c55 h7)<|oB 1 h5 k
 obtain⟨h8,h⟩:=zT h
 obtain⟨r9,h10,h⟩:=zD h
 have k:=oB 2 h8 k
 obtain⟨h11,h⟩:=xD h
 obtain⟨r12,h13,h⟩:=zD h
 obtain⟨r14,h15,h⟩:=zD h
 have k:=oC 0 [6,0,1,3,2] (zNv h15)<|oC 1 [] (c58 h13)<|oK 0 [] h11 (c97 h10) k
 obtain⟨h16,h⟩|⟨h16,h⟩:=xA h
 cases h
 exact tF zEH 3 [0,1,2,3] (oD (zM ([]:List zY))<|oD (dT ([]:zW))<|oD (dT ([]:zW))<|oD (zE ([]:xN))<|oD ((yP zG) d)<|wS e f g m n<|oB 2 h16 k)
 obtain⟨r17,h18,h⟩:=zD h
 exact tH zEH 1 [] [0,1,2,3,4,5,7] [] [2,8,9,13,72,73,74] (oD (dB r17)<|oD (zM r14.1.kids_)<|oD (dT r14.1.args_)<|oD (dT r14.1.binds_)<|oD (zE r14.1.vars_)<|oD (zM ([]:List zY))<|oD (dT ([]:zW))<|oD (dT ([]:zW))<|oD (zE ([]:xN))<|oD ((yP zG) d)<|wS e f g m n<|oC 2 [] (c99 h18)<|oB 2 h16 k) (zDm _ h),⟨(lz rfl),⟨tv,dT _⟩,(lz rfl),(lz rfl),tv⟩,(vY (lz rfl) (zA ((yP zG) _) (zA ⟨tv,tv,tv⟩ zB))),⟨⟨tv,tv,tv,zE _,dT _,dT _,zM _,tv⟩,⟨tv,tv,tv,tv⟩,tv⟩,(vQ (lz rfl) (zA ((yP zG) _) (zA ⟨tv,tv,tv⟩ zB)))⟩
def p9(T:Nat)(L G H:yD)(I:xS)(J K:zU)(R Q:Int)(S:ByteArray)(M:List yJ)(y z:Int)(i:ByteArray)(j:Int)(p:List zO)(q:List yJ)(d:List xC)(N P:Int)(e:zW)(A B:Int)(s:zW)(a:List (List zK))(b:List (List ByteArray))(c:List yM)(u v w:Int)(f:xN)(g m:zW)(n:List zY)(C D:Int)(t:zW)(E F:Int):Option (Int×Int×Int×xN×zW×zW×List zY×Int×Int×Int×Int):=
 p8 T G H I J K e a N P>>=fun r1=>
 if r1.2.1.e_==0 then
 some (r1.1.kind_,r1.1.row_,r1.1.var_,r1.1.vars_,r1.1.binds_,r1.1.args_,r1.1.kids_,E,F,r1.2.2.1,r1.2.2.2)
 else
 if r1.2.1.e_==10 then
 uO T L G H I J K R Q S M y z i j p q d r1.2.2.1 r1.2.2.2 e A B s a b c u v w f g m n C D t E F r1.2.1.e_ Q>>=fun r5=>
 some (u,v,w,f,g,m,n,r5.2.1,r5.2.2,r1.2.2.1,r1.2.2.2)
 else
 if r1.2.1.e_==8 then
 none
 else
 if r1.2.1.e_==11 then
 yG d (X4 0 r1.2.1.row_)>>=fun x19=>
 uO T L G H I J K R Q S M y z i j p q d r1.2.2.1 r1.2.2.2 e A B s a b c u v w f g m n C D t E F r1.2.1.e_ x19.at_>>=fun r21=>
 some (u,v,w,f,g,m,n,r21.2.1,r21.2.2,r1.2.2.1,r1.2.2.2)
 else
 if r1.2.1.at_==0 then
 none
 else
 uO T L G H I J K R Q S M y z i j p q d r1.2.2.1 r1.2.2.2 e A B s a b c u v w f g m n C D t E F r1.2.1.e_ r1.2.1.at_>>=fun r28=>
 some (u,v,w,f,g,m,n,r28.2.1,r28.2.2,r1.2.2.1,r1.2.2.2)
theorem aO:Qf 31 Tryz.f31:=⟨func31,rfl⟩
theorem zNr{T L G H I J K R Q S M y z i j p q d N P e A B s a b c u v w f g m n C D t E F r}(h:p9 T L G H I J K R Q S M y z i j p q d N P e A B s a b c u v w f g m n C D t E F=some r):Ct 31 [.cells [zH yE L .no,.mp 1 0,ai R,ai Q,at' S,zH zN M .no,ai y,ai z,at' i,ai j,zH zR p .no,zH zN q .no,zH yH d .no,.mp 3 0,zH zC e .no,ai A,ai B,zH zC s .no,.ms 4 0 a.length a.length 1,.ms 5 0 b.length b.length 1,.ms 6 0 c.length c.length 4,ai u,ai v,ai w,zH zJ f .no,zH zC g .no,zH zC m .no,zH zV n .no,ai C,ai D,zH zC t .no,ai E,ai F],qB G 2 J K,qR H I,.cells [ai N,ai P],.row (zF (yO zI) a),.row (zF (yO xG) b),.row (zF zZ c)] [.mp 0 0] (.tup []) [.cells [zH yE L .no,.mp 1 0,ai R,ai Q,at' S,zH zN M .no,ai y,ai z,at' i,ai j,zH zR p .no,zH zN q .no,zH yH d .no,.mp 3 0,zH zC e .no,ai A,ai B,zH zC s .no,.ms 4 0 a.length a.length 1,.ms 5 0 b.length b.length 1,.ms 6 0 c.length c.length 4,ai r.1,ai r.2.1,ai r.2.2.1,zH zJ r.2.2.2.1 .no,zH zC r.2.2.2.2.1 .no,zH zC r.2.2.2.2.2.1 .no,zH zV r.2.2.2.2.2.2.1 .no,ai C,ai D,zH zC t .no,ai r.2.2.2.2.2.2.2.1,ai r.2.2.2.2.2.2.2.2.1],qB G 2 J K,qR H I,.cells [ai r.2.2.2.2.2.2.2.2.2.1,ai r.2.2.2.2.2.2.2.2.2.2],.row (zF (yO zI) a),.row (zF (yO xG) b),.row (zF zZ c)] 0:=⟨by
 unfold p9 at h
 obtain⟨r1,h2,h⟩:=zD h
 have k:=oC 4 [1,2,4,3] (zNs h2) o0
 obtain⟨h3,h⟩|⟨h3,h⟩:=xA h
 cases h
 exact tF aO 2 [0,1,2,3,4,5,6] (oD (zQ c)<|oD ((yP yN) b)<|oD ((yP zG) a)<|wS G H I J K<|oD (dT t)<|oD (zM r1.1.kids_)<|oD (dT r1.1.args_)<|oD (dT r1.1.binds_)<|oD (zE r1.1.vars_)<|oD (dT s)<|oD (dT e)<|qJ L M p q d<|oB 6 h3 k)
 have k:=oB 6 h3 k
 obtain⟨h4,h⟩|⟨h4,h⟩:=xA h
 obtain⟨r5,h6,h⟩:=zD h
 cases h
 exact tF aO 0 [0,1,2,3,4,5,6] (oD (zQ c)<|oD ((yP yN) b)<|oD ((yP zG) a)<|wS G H I J K<|oD (dT t)<|oD (zM n)<|oD (dT m)<|oD (dT g)<|oD (zE f)<|oD (dT s)<|oD (dT e)<|qJ L M p q d<|oC 2 [0,1,2,3,4,5,6] (uP h6)<|oB 1 h4 k)
 have k:=oB 1 h4 k
 obtain⟨h7,h⟩:=zT h
 have k:=oB 1 h7 k
 obtain⟨h18,h⟩|⟨h18,h⟩:=xA h
 obtain⟨x19,h20,h⟩:=zD h
 obtain⟨r21,h22,h⟩:=zD h
 cases h
 exact tF aO 0 [0,1,2,3,4,5,6] (oD (zQ c)<|oD ((yP yN) b)<|oD ((yP zG) a)<|wS G H I J K<|oD (dT t)<|oD (zM n)<|oD (dT m)<|oD (dT g)<|oD (zE f)<|oD (dT s)<|oD (dT e)<|qJ L M p q d<|oC 2 [0,1,2,3,4,5,6] (uP h22)<|oA 3 (R3 (o:=.no) h20)<|oB 1 h18 k)
 have k:=oB 1 h18 k
 obtain⟨h23,h⟩:=zT h
 obtain⟨r28,h29,h⟩:=zD h
 cases h
 exact tF aO 0 [0,1,2,3,4,5,6] (oD (zQ c)<|oD ((yP yN) b)<|oD ((yP zG) a)<|wS G H I J K<|oD (dT t)<|oD (zM n)<|oD (dT m)<|oD (dT g)<|oD (zE f)<|oD (dT s)<|oD (dT e)<|qJ L M p q d<|oC 1 [0,1,2,3,4,5,6] (uP h29)<|oB 0 h23 k),⟨(lz rfl),tv⟩,(zA ⟨⟨tv,dE _⟩,(lz rfl),tv,tv,tv,⟨tv,yC _⟩,tv,tv,tv,tv,⟨tv,zL _⟩,⟨tv,yC _⟩,⟨tv,yT _⟩,(lz rfl),⟨tv,dT _⟩,tv,tv,⟨tv,dT _⟩,(lz rfl),(lz rfl),(lz rfl),tv,tv,tv,⟨tv,zE _⟩,⟨tv,dT _⟩,⟨tv,dT _⟩,⟨tv,zM _⟩,tv,tv,⟨tv,dT _⟩,tv,tv,tv⟩ (vY (lz rfl) (zA ⟨tv,tv,tv⟩ (zA ((yP zG) _) (zA ((yP yN) _) (zA (zQ _) zB)))))),tv,(zA ⟨dE _,(lz rfl),tv,tv,tv,yC _,tv,tv,tv,tv,zL _,yC _,yT _,(lz rfl),dT _,tv,tv,dT _,(lz rfl),(lz rfl),(lz rfl),tv,tv,tv,zE _,dT _,dT _,zM _,tv,tv,dT _,tv,tv,tv⟩ (vQ (lz rfl) (zA ⟨tv,tv,tv⟩ (zA ((yP zG) _) (zA ((yP yN) _) (zA (zQ _) zB))))))⟩
def mD:Nat->yD->yD->yD->xS->zU->zU->Int->Int->ByteArray->List yJ->Int->Int->ByteArray->Int->List zO->List yJ->List xC->Int->Int->zW->Int->Int->zW->(List (List zK))->(List (List ByteArray))->Int->Int->Int->xN->zW->zW->List zY->Int->Int->zW->Int->Int->Int->List yM->Option (List yM×Int×Int)
 |0,_,_,_,_,_,_,_,_,_,_,_,_,_,_,_,_,_,_,_,_,_,_,_,_,_,_,_,_,_,_,_,_,_,_,_,_,_,_,_=>none
 |qq+1,N,P,Q,R,S,T,Y,Z,X,U,A,B,C,D,m,n,f,E,F,p,G,H,q,e,d,I,J,K,s,t,u,v,L,M,w,V,y,i,g=>
 if decide (V<(f.length:Int))then
 yG f V>>=fun x2=>
 if x2.has_ then
 uR d.length V>>=fun x5=>
 yG d (x5:Int)>>=fun x7=>
 yV 16 [X] x7>>=fun l9=>
 bL qq N P Q R S T Y Z X U A B C D m n f E F p G H q e d g I J K s t u v L M w y i l9 x2.body_ x2.body_.at_>>=fun r12=>
 yV 48 g [(yM.mk x2.has_ r12.1)]>>=fun l14=>
 mD qq N P Q R S T Y Z X U A B C D m n f E F p G H q e d I J K s t u v L M w (xE (V+1)) r12.2.1 r12.2.2 l14
 else
 none
 else
 some (g,y,i)
def o4(qq:Nat)(N P Q:yD)(R:xS)(S T:zU)(Y Z:Int)(X:ByteArray)(U:List yJ)(A B:Int)(C:ByteArray)(D:Int)(m:List zO)(n:List yJ)(f:List xC)(E F:Int)(p:zW)(G H:Int)(q:zW)(e:List (List zK))(d:List (List ByteArray))(W:List yM)(I J K:Int)(s:xN)(t u:zW)(v:List zY)(L M:Int)(w:zW)(q36 q37:Int):Option (List yM×Int×Int):=
 mD qq N P Q R S T Y Z X U A B C D m n f E F p G H q e d I J K s t u v L M w 0 q36 q37 W
theorem zDl:∀qq:Nat,(∀ {N P Q R S T Y Z X U A B C D m n f E F p G H q e d I J K s t u v L M w V y i g r},mD qq N P Q R S T Y Z X U A B C D m n f E F p G H q e d I J K s t u v L M w V y i g=some r->(∀j,dL 7 (pt 53 Tryz.f32) (sp j 57 0 [(0,.mp 0 0),(9,zH yH f .no),(10,ai (f.length:Int)),(11,ai V)]) (⟨[(0,.cells [zH yE N .no,.mp 1 0,ai Y,ai Z,at' X,zH zN U .no,ai A,ai B,at' C,ai D,zH zR m .no,zH zN n .no,zH yH f .no,.mp 3 0,zH zC p .no,ai G,ai H,zH zC q .no,.ms 4 0 e.length e.length 1,.ms 5 0 d.length d.length 1,.ms 7 0 g.length g.length 4,ai I,ai J,ai K,zH zJ s .no,zH zC t .no,zH zC u .no,zH zV v .no,ai L,ai M,zH zC w .no,ai y,ai i]),(1,qB P 2 S T),(2,qR Q R),(3,.cells [ai E,ai F]),(4,.row (zF (yO zI) e)),(5,.row (zF (yO xG) d)),(6,.dead),(7,.row (zF zZ g))],8,[],0,[]⟩) (fQ 7 (nQ 7 Tryz.f32 (.tup []) [.cells [zH yE N .no,.mp 1 0,ai Y,ai Z,at' X,zH zN U .no,ai A,ai B,at' C,ai D,zH zR m .no,zH zN n .no,zH yH f .no,.mp 3 0,zH zC p .no,ai G,ai H,zH zC q .no,.ms 4 0 e.length e.length 1,.ms 5 0 d.length d.length 1,.ms 7 0 r.1.length r.1.length 4,ai I,ai J,ai K,zH zJ s .no,zH zC t .no,zH zC u .no,zH zV v .no,ai L,ai M,zH zC w .no,ai r.2.1,ai r.2.2],qB P 2 S T,qR Q R,.cells [ai E,ai F],.row (zF (yO zI) e),.row (zF (yO xG) d),.dead,.row (zF zZ r.1)] 0) [.blk 0]))):=by
 intro qq
 induction qq with
 |zero=>
  exact fun h=>nn h
 |succ qq ih=>
  intro N P Q R S T Y Z X U A B C D m n f E F p G H q e d I J K s t u v L M w V y i g r h
  rw[mD]at h
  obtain⟨h1,h⟩|⟨h1,h⟩:=xA h
  obtain⟨x2,h3,h⟩:=zD h
  have k:=oA 0 (R3 (o:=.no) h3)<|oB 0 h1 o0
  obtain⟨h4,h⟩:=xD h
  obtain⟨x5,h6,h⟩:=zD h
  obtain⟨x7,h8,h⟩:=zD h
  obtain⟨l9,h10,h⟩:=zD h
  have k:=oG (a:=(zH xG x7 .no)) 0 (U1 (xQ yN) h8 (false,1) (val:=zH xG x7 .no) rfl)<|oA 3 (zSP (b:=5) (c:=List.length d) (z:=1) h6)<|oB 4 h4 k
  by_cases h11:List.length x7=0
  obtain⟨r12,h13,h⟩:=zD h
  obtain⟨l14,h15,h⟩:=zD h
  exact fun j=>lH 2 [] [0,1,2,3,4,5,6,10] [] [0,9,10,11] (oD (yT f)<|oD (zQ l14)<|oD ((yP yN) d)<|oD ((yP zG) e)<|wS P Q R S T<|oD (dT w)<|oD (zM v)<|oD (dT u)<|oD (dT t)<|oD (zE s)<|oD (dT q)<|oD (dT p)<|qJ N U m n f<|oM 4 (zNM h15 (by simp))<|oC 2 [0,1,2,3,4,5,7] (w6 h13)<|oP 0 (zSe h10 h11) k) (ih h)
  obtain⟨r12,h13,h⟩:=zD h
  obtain⟨l14,h15,h⟩:=zD h
  exact fun j=>lH 2 [] [0,1,2,3,4,5,6,10] [] [0,9,10,11] (oD (yT f)<|oD (zQ l14)<|oD ((yP yN) d)<|oD ((yP zG) e)<|wS P Q R S T<|oD (dT w)<|oD (zM v)<|oD (dT u)<|oD (dT t)<|oD (zE s)<|oD (dT q)<|oD (dT p)<|qJ N U m n f<|oM 4 (zNM h15 (by simp))<|oC 2 [0,1,2,3,4,5,7] (w6 h13)<|oP 0 (zHD h10 h11) k) (ih h)
  cases h
  exact fun j=>lF 0 [0,1,2,3,4,5,6,7] (oD (zQ g)<|oD ((yP yN) d)<|oD ((yP zG) e)<|wS P Q R S T<|oD (dT w)<|oD (zM v)<|oD (dT u)<|oD (dT t)<|oD (zE s)<|oD (dT q)<|oD (dT p)<|qJ N U m n f<|oB 0 h1 o0)
theorem zNq{qq N P Q R S T Y Z X U A B C D m n f E F p G H q e d W I J K s t u v L M w q36 q37 r}(h:o4 qq N P Q R S T Y Z X U A B C D m n f E F p G H q e d W I J K s t u v L M w q36 q37=some r):Ct 32 [.cells [zH yE N .no,.mp 1 0,ai Y,ai Z,at' X,zH zN U .no,ai A,ai B,at' C,ai D,zH zR m .no,zH zN n .no,zH yH f .no,.mp 3 0,zH zC p .no,ai G,ai H,zH zC q .no,.ms 4 0 e.length e.length 1,.ms 5 0 d.length d.length 1,.ms 6 0 W.length W.length 4,ai I,ai J,ai K,zH zJ s .no,zH zC t .no,zH zC u .no,zH zV v .no,ai L,ai M,zH zC w .no,ai q36,ai q37],qB P 2 S T,qR Q R,.cells [ai E,ai F],.row (zF (yO zI) e),.row (zF (yO xG) d),.row (zF zZ W)] [.mp 0 0] (.tup []) [.cells [zH yE N .no,.mp 1 0,ai Y,ai Z,at' X,zH zN U .no,ai A,ai B,at' C,ai D,zH zR m .no,zH zN n .no,zH yH f .no,.mp 3 0,zH zC p .no,ai G,ai H,zH zC q .no,.ms 4 0 e.length e.length 1,.ms 5 0 d.length d.length 1,.ms 7 0 r.1.length r.1.length 4,ai I,ai J,ai K,zH zJ s .no,zH zC t .no,zH zC u .no,zH zV v .no,ai L,ai M,zH zC w .no,ai r.2.1,ai r.2.2],qB P 2 S T,qR Q R,.cells [ai E,ai F],.row (zF (yO zI) e),.row (zF (yO xG) d),.dead,.row (zF zZ r.1)] 0:=⟨by
 unfold o4 at h
 exact tH ⟨func32,rfl⟩ 2 [(some 6,0,0)] [0,1,2,3,4,5,6,7] [] [0,9,10,11] (oD (yT f)<|oD (zQ W)<|oD ((yP yN) d)<|oD ((yP zG) e)<|wS P Q R S T<|oD (dT w)<|oD (zM v)<|oD (dT u)<|oD (dT t)<|oD (zE s)<|oD (dT q)<|oD (dT p)<|oD (yT f)<|oD (yC n)<|oD (zL m)<|oD (yC U)<|oD (dE N) o0) (zDl _ h),⟨(lz rfl),tv⟩,(zA ⟨⟨tv,dE _⟩,(lz rfl),tv,tv,tv,⟨tv,yC _⟩,tv,tv,tv,tv,⟨tv,zL _⟩,⟨tv,yC _⟩,⟨tv,yT _⟩,(lz rfl),⟨tv,dT _⟩,tv,tv,⟨tv,dT _⟩,(lz rfl),(lz rfl),(lz rfl),tv,tv,tv,⟨tv,zE _⟩,⟨tv,dT _⟩,⟨tv,dT _⟩,⟨tv,zM _⟩,tv,tv,⟨tv,dT _⟩,tv,tv,tv⟩ (vY (lz rfl) (zA ⟨tv,tv,tv⟩ (zA ((yP zG) _) (zA ((yP yN) _) (zA (zQ _) zB)))))),tv,(zA ⟨dE _,(lz rfl),tv,tv,tv,yC _,tv,tv,tv,tv,zL _,yC _,yT _,(lz rfl),dT _,tv,tv,dT _,(lz rfl),(lz rfl),(lz rfl),tv,tv,tv,zE _,dT _,dT _,zM _,tv,tv,dT _,tv,tv,tv⟩ (vQ (lz rfl) (zA ⟨tv,tv,tv⟩ (zA ((yP zG) _) (zA ((yP yN) _) (zA tv (zA (zQ _) zB)))))))⟩
def e50(_qq:Nat)(a:yF):Option (List yF):=if a.kids_.length=0∧a.kind_=1 then some [a]else none
theorem c50{b:Nat}{a:yF}{r:List yF}(h:e50 b a=some r):CT prog 50 [] [wD a] (.sl (zF wM r) r.length .no) [] 0:=by
 unfold e50 at h
 split at h
 ·obtain rfl:=(Option.some.inj h).symm
  exact zVh (by omega) (by omega)
 ·cases h
def e64(e:Nat)(M:xR)(c d:Int)(p0_Context:zW)(p0_Names:zU)(p0_Types:zW)(a b:Tm):Option (Int×Int×Int):=
 e89 e M c d p0_Context p0_Names p0_Types [a,b]>>=fun r1=>
 if r1.1 != 0 then
 none
 else
 zFX e M c d r1.2.1 r1.2.2.1 r1.2.2.2.1 r1.2.2.2.2 a b>>=fun r4=>
 some (r4.1,r4.2.1,r4.2.2)
theorem c64{e M c d p0_Context p0_Names p0_Types a b r}(h:e64 e M c d p0_Context p0_Names p0_Types a b=some r):Ct 64 [mB M 1,mR M,.cells [ai c,ai d]] [.agg [.mp 0 0,.mp 2 0,zH zC p0_Context .no,zH zS p0_Names .no,zH zC p0_Types .no],xF a,xF b] (ai r.1) [mB M 1,mR M,.cells [ai r.2.1,ai r.2.2]] 0:=⟨by
 unfold e64 at h
 obtain⟨r1,h2,h⟩:=zD h
 have k:=oC 0 [0,1,2] (c89 h2)<|oS 3 (xL xU [a,b]) o0
 obtain⟨h3,h⟩:=zT h
 obtain⟨r4,h5,h⟩:=zD h
 cases h
 exact tF ⟨func64,rfl⟩ 0 [0,1,2] (tB M<|oC 2 [6,0,1,2] (zXN h5)<|oB 2 h3 k),⟨⟨(lz rfl),(lz rfl),⟨tv,dT _⟩,⟨tv,dI _⟩,⟨tv,dT _⟩,tv⟩,⟨tv,tv,⟨tv,dT _⟩,tv⟩,⟨tv,tv,⟨tv,dT _⟩,tv⟩,tv⟩,(vY (lz rfl) (zA ⟨tv,tv,tv⟩ zB)),tv,(vQ (lz rfl) (zA ⟨tv,tv,tv⟩ zB))⟩
def mE:Nat->yD->yD->yD->xS->zU->zU->Int->Int->ByteArray->List yJ->Int->Int->ByteArray->Int->List zO->List yJ->List xC->Int->Int->zW->Int->Int->zW->(List (List zK))->(List (List ByteArray))->List yM->Int->Int->Int->xN->zW->zW->List zY->Int->Int->zW->yF->xC->(Tm×Int)->(Tm×Int)->(Bool×Int×Int)->zU->Int->zW->Option (Int×Int×Int×Int)
 |0,_,_,_,_,_,_,_,_,_,_,_,_,_,_,_,_,_,_,_,_,_,_,_,_,_,_,_,_,_,_,_,_,_,_,_,_,_,_,_,_,_,_,_,_=>none
 |W+1,U,P,Q,R,S,T,X,Y,Z,V,D,E,F,G,q,s,m,K,L,t,B,C,p,e,f,d,H,I,J,u,v,w,y,i,A,g,N,x1,r12,r17,r19,l24,v77,M=>
 if decide (v77<(N.vars_.length:Int))then
 yG N.vars_ v77>>=fun x27=>
 yV 40 M [x27.type_]>>=fun l29=>
 mE W U P Q R S T X Y Z V D E F G q s m K L t B C p e f d H I J u v w y i A g N x1 r12 r17 r19 l24 (xE (v77+1)) l29
 else
 yV 40 M [(Tm.mk i A g)]>>=fun l31=>
 e64 W (xR.mk P Q R S T) K L [] l24 l31 r12.1 r17.1>>=fun r33=>
 uO W U P Q R S T X Y Z V D E F G q s m r33.2.1 r33.2.2 t B C p e f d H I J u v w y i A g r19.2.1 r19.2.2 r33.1 x1.body_.at_>>=fun r35=>
 some (r35.2.1,r35.2.2,r33.2.1,r33.2.2)
def o5(W:Nat)(U P Q:yD)(R:xS)(S T:zU)(X Y:Int)(Z:ByteArray)(V:List yJ)(D E:Int)(F:ByteArray)(G:Int)(q:List zO)(s:List yJ)(m:List xC)(K L:Int)(t:zW)(B C:Int)(p:zW)(e:List (List zK))(f:List (List ByteArray))(d:List yM)(H I J:Int)(u:xN)(v w:zW)(y:List zY)(i A:Int)(g:zW)(q36 q37:Int)(N:yF):Option (Int×Int×Int×Int):=
 yG m N.row_>>=fun x1=>
 uR d.length N.row_>>=fun x3=>
 yG d (x3:Int)>>=fun x5=>
 zDq W 1048576>>=fun r7=>
 yV 40 [r7] N.binds_>>=fun l9=>
 zBn W x5.term_ l9>>=fun r12=>
 uO W U P Q R S T X Y Z V D E F G q s m K L t B C p e f d H I J u v w y i A g q36 q37 r12.2 x1.body_.at_>>=fun r14=>
 if r14.1 then
 none
 else
 zBn W (Tm.mk B C p) N.args_>>=fun r17=>
 uO W U P Q R S T X Y Z V D E F G q s m K L t B C p e f d H I J u v w y i A g r14.2.1 r14.2.2 r17.2 x1.body_.at_>>=fun r19=>
 if r19.1 then
 none
 else
 zGo W N.vars_>>=fun r22=>
 yV 8 r22 [1048576]>>=fun l24=>
 mE W U P Q R S T X Y Z V D E F G q s m K L t B C p e f d H I J u v w y i A g N x1 r12 r17 r19 l24 0 []
theorem zEI:Qf 51 f51:=⟨func51,rfl⟩
theorem M0:∀W:Nat,(∀ {U P Q R S T X Y Z V D E F G q s m K L t B C p e f d H I J u v w y i A g N x1 r12 r17 r19 l24 v77 M r},mE W U P Q R S T X Y Z V D E F G q s m K L t B C p e f d H I J u v w y i A g N x1 r12 r17 r19 l24 v77 M=some r->(∀j,dL 7 (pt 4194229 f51) (sp j 106 0 [(0,.mp 0 0),(4,ai x1.body_.at_),(5,.mp 7 0),(7,.mp 8 0),(8,.mp 9 0),(75,zH zJ N.vars_ .no),(76,ai (N.vars_.length:Int)),(77,ai v77)]) (⟨[(0,.cells [zH yE U .no,.mp 1 0,ai X,ai Y,at' Z,zH zN V .no,ai D,ai E,at' F,ai G,zH zR q .no,zH zN s .no,zH yH m .no,.mp 3 0,zH zC t .no,ai B,ai C,zH zC p .no,.ms 4 0 e.length e.length 1,.ms 5 0 f.length f.length 1,.ms 6 0 d.length d.length 4,ai H,ai I,ai J,zH zJ u .no,zH zC v .no,zH zC w .no,zH zV y .no,ai i,ai A,zH zC g .no,ai r19.2.1,ai r19.2.2]),(1,qB P 2 S T),(2,qR Q R),(3,.cells [ai K,ai L]),(4,.row (zF (yO zI) e)),(5,.row (zF (yO xG) f)),(6,.row (zF zZ d)),(7,.cells [ai r12.1.k,ai r12.1.n,zH zC r12.1.sub .no]),(8,.cells [ai r17.1.k,ai r17.1.n,zH zC r17.1.sub .no]),(9,.cells [.mp 1 0,.mp 3 0,zH zC ([]:zW) .nl,zH zS l24 (.st 0 1),zH zC M (.st 1 3)])],10,[0,1],2,[]⟩) (fQ 7 (nQ 7 f51 (.tup []) [.cells [zH yE U .no,.mp 1 0,ai X,ai Y,at' Z,zH zN V .no,ai D,ai E,at' F,ai G,zH zR q .no,zH zN s .no,zH yH m .no,.mp 3 0,zH zC t .no,ai B,ai C,zH zC p .no,.ms 4 0 e.length e.length 1,.ms 5 0 f.length f.length 1,.ms 6 0 d.length d.length 4,ai H,ai I,ai J,zH zJ u .no,zH zC v .no,zH zC w .no,zH zV y .no,ai i,ai A,zH zC g .no,ai r.1,ai r.2.1],qB P 2 S T,qR Q R,.cells [ai r.2.2.1,ai r.2.2.2],.row (zF (yO zI) e),.row (zF (yO xG) f),.row (zF zZ d)] 0) [.blk 0,.seq (pt 65535 f51)]))):=by
 intro W
 induction W with
 |zero=>
  exact fun h=>nn h
 |succ W ih=>
  intro U P Q R S T X Y Z V D E F G q s m K L t B C p e f d H I J u v w y i A g N x1 r12 r17 r19 l24 v77 M r h
  rw[mE]at h
  obtain⟨h26,h⟩|⟨h26,h⟩:=xA h
  obtain⟨x27,h28,h⟩:=zD h
  obtain⟨l29,h30,h⟩:=zD h
  exact fun j=>lH 2 [] [0,1,2,3,4,5,6,7,8,9] [0,2] [0,4,5,7,8,75,76,77] (oD (zE N.vars_)<|oD (dT l29)<|oD (dI l24)<|oD (dT ([]:zW))<|oD (dT r17.1.sub)<|oD (dT r12.1.sub)<|oD (zQ d)<|oD ((yP yN) f)<|oD ((yP zG) e)<|wS P Q R S T<|oD (dT g)<|oD (zM y)<|oD (dT w)<|oD (dT v)<|oD (zE u)<|oD (dT p)<|oD (dT t)<|qJ U V q s m<|oP 0 (vO h30 (by simp))<|oS 4 (xL xU [x27.type_])<|oA 0 (gX (o:=.no) h28)<|oB 0 h26 o0) (ih h)
  obtain⟨l31,h32,h⟩:=zD h
  obtain⟨r33,h34,h⟩:=zD h
  obtain⟨r35,h36,h⟩:=zD h
  cases h
  exact fun j=>lF 0 [0,1,2,3,4,5,6] (oD (zQ d)<|oD ((yP yN) f)<|oD ((yP zG) e)<|wS P Q R S T<|oD (dT g)<|oD (zM y)<|oD (dT w)<|oD (dT v)<|oD (zE u)<|oD (dT p)<|oD (dT t)<|qJ U V q s m<|oC 0 [0,1,2,3,4,5,6] (uP h36)<|oC 4 [1,2,3] (c64 h34)<|oP 0 (vO h32 (by simp))<|oS 2 (xL xU [(Tm.mk i A g)])<|oB 0 h26 o0)
theorem zNp{W U P Q R S T X Y Z V D E F G q s m K L t B C p e f d H I J u v w y i A g q36 q37 N r}(h:o5 W U P Q R S T X Y Z V D E F G q s m K L t B C p e f d H I J u v w y i A g q36 q37 N=some r):Ct 51 [.cells [zH yE U .no,.mp 1 0,ai X,ai Y,at' Z,zH zN V .no,ai D,ai E,at' F,ai G,zH zR q .no,zH zN s .no,zH yH m .no,.mp 3 0,zH zC t .no,ai B,ai C,zH zC p .no,.ms 4 0 e.length e.length 1,.ms 5 0 f.length f.length 1,.ms 6 0 d.length d.length 4,ai H,ai I,ai J,zH zJ u .no,zH zC v .no,zH zC w .no,zH zV y .no,ai i,ai A,zH zC g .no,ai q36,ai q37],qB P 2 S T,qR Q R,.cells [ai K,ai L],.row (zF (yO zI) e),.row (zF (yO xG) f),.row (zF zZ d)] [.mp 0 0,wD N] (.tup []) [.cells [zH yE U .no,.mp 1 0,ai X,ai Y,at' Z,zH zN V .no,ai D,ai E,at' F,ai G,zH zR q .no,zH zN s .no,zH yH m .no,.mp 3 0,zH zC t .no,ai B,ai C,zH zC p .no,.ms 4 0 e.length e.length 1,.ms 5 0 f.length f.length 1,.ms 6 0 d.length d.length 4,ai H,ai I,ai J,zH zJ u .no,zH zC v .no,zH zC w .no,zH zV y .no,ai i,ai A,zH zC g .no,ai r.1,ai r.2.1],qB P 2 S T,qR Q R,.cells [ai r.2.2.1,ai r.2.2.2],.row (zF (yO zI) e),.row (zF (yO xG) f),.row (zF zZ d)] 0:=⟨by
 unfold o5 at h
 obtain⟨x1,h2,h⟩:=zD h
 obtain⟨x3,h4,h⟩:=zD h
 obtain⟨x5,h6,h⟩:=zD h
 obtain⟨r7,h8,h⟩:=zD h
 obtain⟨l9,h10,h⟩:=zD h
 have k:=rF 0<|oS 0 (xL xU [r7])<|oC 0 [] (zGv h8)<|oG (a:=(.agg [ai x5.term_.k,ai x5.term_.n,zH zC x5.term_.sub .no])) 0 (ldF vA h6 1 (true,3) (val:=.agg [ai x5.term_.k,ai x5.term_.n,zH zC x5.term_.sub .no]) rfl)<|oA 0 (D9 (b:=6) (c:=List.length d) (z:=4) h4)<|rF 0<|rF 1<|oA 2 (R3 (o:=.no) h2) o0
 by_cases h11:List.length N.binds_=0
 obtain⟨r12,h13,h⟩:=zD h
 obtain⟨r14,h15,h⟩:=zD h
 have k:=oC 0 [] (R6 h13)<|oP 0 (zAd h10 h11) k
 obtain⟨h16,h⟩:=zT h
 obtain⟨r17,h18,h⟩:=zD h
 obtain⟨r19,h20,h⟩:=zD h
 have k:=oC 2 [] (R6 h18)<|oK 3 [0,1,2,3,4,5,6] h16 (uP h15) k
 obtain⟨h21,h⟩:=zT h
 obtain⟨r22,h23,h⟩:=zD h
 obtain⟨l24,h25,h⟩:=zD h
 exact tH zEI 3 [(some 10,4,3)] [0,1,2,3,4,5,6,8,9,10] [1,2] [0,4,5,7,8,75,76,77] (oD (zE N.vars_)<|oD (dT ([]:zW))<|oD (dI l24)<|oD (dT ([]:zW))<|oD (dT r17.1.sub)<|oD (dT r12.1.sub)<|oD (zQ d)<|oD ((yP yN) f)<|oD ((yP zG) e)<|wS P Q R S T<|oD (dT g)<|oD (zM y)<|oD (dT w)<|oD (dT v)<|oD (zE u)<|oD (dT p)<|oD (dT t)<|qJ U V q s m<|oP 1 (sG h25 (by simp))<|oC 1 [] (zBh h23)<|rF 0<|rF 0<|oK 3 [0,1,2,3,4,5,6] h21 (uP h20) k) (M0 _ h)
 obtain⟨r12,h13,h⟩:=zD h
 obtain⟨r14,h15,h⟩:=zD h
 have k:=oC 0 [] (R6 h13)<|oP 0 (vO h10 h11) k
 obtain⟨h16,h⟩:=zT h
 obtain⟨r17,h18,h⟩:=zD h
 obtain⟨r19,h20,h⟩:=zD h
 have k:=oC 2 [] (R6 h18)<|oK 3 [0,1,2,3,4,5,6] h16 (uP h15) k
 obtain⟨h21,h⟩:=zT h
 obtain⟨r22,h23,h⟩:=zD h
 obtain⟨l24,h25,h⟩:=zD h
 exact tH zEI 3 [(some 10,4,3)] [0,1,2,3,4,5,6,8,9,10] [2,3] [0,4,5,7,8,75,76,77] (oD (zE N.vars_)<|oD (dT ([]:zW))<|oD (dI l24)<|oD (dT ([]:zW))<|oD (dT r17.1.sub)<|oD (dT r12.1.sub)<|oD (zQ d)<|oD ((yP yN) f)<|oD ((yP zG) e)<|wS P Q R S T<|oD (dT g)<|oD (zM y)<|oD (dT w)<|oD (dT v)<|oD (zE u)<|oD (dT p)<|oD (dT t)<|qJ U V q s m<|oP 1 (sG h25 (by simp))<|oC 1 [] (zBh h23)<|rF 0<|rF 0<|oK 3 [0,1,2,3,4,5,6] h21 (uP h20) k) (M0 _ h),⟨(lz rfl),⟨tv,tv,tv,⟨tv,zE _⟩,⟨tv,dT _⟩,⟨tv,dT _⟩,⟨tv,zM _⟩,tv⟩,tv⟩,(zA ⟨⟨tv,dE _⟩,(lz rfl),tv,tv,tv,⟨tv,yC _⟩,tv,tv,tv,tv,⟨tv,zL _⟩,⟨tv,yC _⟩,⟨tv,yT _⟩,(lz rfl),⟨tv,dT _⟩,tv,tv,⟨tv,dT _⟩,(lz rfl),(lz rfl),(lz rfl),tv,tv,tv,⟨tv,zE _⟩,⟨tv,dT _⟩,⟨tv,dT _⟩,⟨tv,zM _⟩,tv,tv,⟨tv,dT _⟩,tv,tv,tv⟩ (vY (lz rfl) (zA ⟨tv,tv,tv⟩ (zA ((yP zG) _) (zA ((yP yN) _) (zA (zQ _) zB)))))),tv,(zA ⟨dE _,(lz rfl),tv,tv,tv,yC _,tv,tv,tv,tv,zL _,yC _,yT _,(lz rfl),dT _,tv,tv,dT _,(lz rfl),(lz rfl),(lz rfl),tv,tv,tv,zE _,dT _,dT _,zM _,tv,tv,dT _,tv,tv,tv⟩ (vQ (lz rfl) (zA ⟨tv,tv,tv⟩ (zA ((yP zG) _) (zA ((yP yN) _) (zA (zQ _) zB))))))⟩
mutual
def mF:Nat->yD->yD->yD->xS->zU->zU->Int->Int->ByteArray->List yJ->Int->Int->ByteArray->Int->List zO->List yJ->List xC->zW->Int->Int->zW->(List (List zK))->(List (List ByteArray))->List yM->Int->Int->Int->xN->zW->zW->List zY->Int->Int->zW->List yF->Int->Int->Int->Int->Int->Option (Int×Int×Int×Int)
 |0,_,_,_,_,_,_,_,_,_,_,_,_,_,_,_,_,_,_,_,_,_,_,_,_,_,_,_,_,_,_,_,_,_,_,_,_,_,_,_,_=>none
 |V+1,K,L,M,N,P,Q,S,T,U,R,B,C,D,E,t,u,f,v,F,G,w,a,b,c,z,i,A,g,m,n,p,H,I,y,r1,J,d,e,q,s=>
 if decide (J<(f.length:Int))then
 mG V K L M N P Q S T U R B C D E t u f v F G w a b c z i A g m n p H I y r1 J 0 d e q s
 else
 some (d,e,q,s)
def mG:Nat->yD->yD->yD->xS->zU->zU->Int->Int->ByteArray->List yJ->Int->Int->ByteArray->Int->List zO->List yJ->List xC->zW->Int->Int->zW->(List (List zK))->(List (List ByteArray))->List yM->Int->Int->Int->xN->zW->zW->List zY->Int->Int->zW->List yF->Int->Int->Int->Int->Int->Int->Option (Int×Int×Int×Int)
 |0,_,_,_,_,_,_,_,_,_,_,_,_,_,_,_,_,_,_,_,_,_,_,_,_,_,_,_,_,_,_,_,_,_,_,_,_,_,_,_,_,_=>none
 |V+1,K,L,M,N,P,Q,S,T,U,R,B,C,D,E,t,u,f,v,F,G,w,a,b,c,z,i,A,g,m,n,p,H,I,y,r1,J,W,d,e,q,s=>
 if decide (W<(r1.length:Int))then
 yG r1 W>>=fun x5=>
 if x5.row_ != J then
 none
 else
 yG f J>>=fun x8=>
 if x8.has_ then
 if d==0 then
 o5 V K L M N P Q S T U R B C D E t u f q s v F G w a b c z i A g m n p H I y d e x5>>=fun r12=>
 mG V K L M N P Q S T U R B C D E t u f v F G w a b c z i A g m n p H I y r1 J (xE (W+1)) r12.1 r12.2.1 r12.2.2.1 r12.2.2.2
 else
 none
 else
 none
 else
 mF V K L M N P Q S T U R B C D E t u f v F G w a b c z i A g m n p H I y r1 (xE (J+1)) d e q s
end
def o6(V:Nat)(K L M:yD)(N:xS)(P Q:zU)(S T:Int)(U:ByteArray)(R:List yJ)(B C:Int)(D:ByteArray)(E:Int)(t:List zO)(u:List yJ)(f:List xC)(X Y:Int)(v:zW)(F G:Int)(w:zW)(a:List (List zK))(b:List (List ByteArray))(c:List yM)(z i A:Int)(g:xN)(m n:zW)(p:List zY)(H I:Int)(y:zW)(Z q37:Int):Option (Int×Int×Int×Int):=
 e50 V (yF.mk z i A g m n p)>>=fun r1=>
 mF V K L M N P Q S T U R B C D E t u f v F G w a b c z i A g m n p H I y r1 0 Z q37 X Y
theorem kK:∀V:Nat,(∀ {K L M N P Q S T U R B C D E t u f v F G w a b c z i A g m n p H I y r1 J d e q s r},mF V K L M N P Q S T U R B C D E t u f v F G w a b c z i A g m n p H I y r1 J d e q s=some r->(∀j,dL 7 (pt 245 Tryz.f33) (sp j 62 0 [(0,.mp 0 0),(2,zH wM r1 .no),(17,ai (f.length:Int)),(18,ai J)]) (⟨[(0,.cells [zH yE K .no,.mp 1 0,ai S,ai T,at' U,zH zN R .no,ai B,ai C,at' D,ai E,zH zR t .no,zH zN u .no,zH yH f .no,.mp 3 0,zH zC v .no,ai F,ai G,zH zC w .no,.ms 4 0 a.length a.length 1,.ms 5 0 b.length b.length 1,.ms 6 0 c.length c.length 4,ai z,ai i,ai A,zH zJ g .no,zH zC m .no,zH zC n .no,zH zV p .no,ai H,ai I,zH zC y .no,ai d,ai e]),(1,qB L 2 P Q),(2,qR M N),(3,.cells [ai q,ai s]),(4,.row (zF (yO zI) a)),(5,.row (zF (yO xG) b)),(6,.row (zF zZ c))],7,[],0,[]⟩) (fQ 7 (nQ 7 Tryz.f33 (.tup []) [.cells [zH yE K .no,.mp 1 0,ai S,ai T,at' U,zH zN R .no,ai B,ai C,at' D,ai E,zH zR t .no,zH zN u .no,zH yH f .no,.mp 3 0,zH zC v .no,ai F,ai G,zH zC w .no,.ms 4 0 a.length a.length 1,.ms 5 0 b.length b.length 1,.ms 6 0 c.length c.length 4,ai z,ai i,ai A,zH zJ g .no,zH zC m .no,zH zC n .no,zH zV p .no,ai H,ai I,zH zC y .no,ai r.1,ai r.2.1],qB L 2 P Q,qR M N,.cells [ai r.2.2.1,ai r.2.2.2],.row (zF (yO zI) a),.row (zF (yO xG) b),.row (zF zZ c)] 0) [.blk 0])))∧(∀ {K L M N P Q S T U R B C D E t u f v F G w a b c z i A g m n p H I y r1 J W d e q s r},mG V K L M N P Q S T U R B C D E t u f v F G w a b c z i A g m n p H I y r1 J W d e q s=some r->(∀j,dL 7 (pt 16120309 Tryz.f33) (sp j 62 0 [(0,.mp 0 0),(2,zH wM r1 .no),(3,ai J),(17,ai (f.length:Int)),(18,ai J),(21,zH wM r1 .no),(22,ai (r1.length:Int)),(23,ai W)]) (⟨[(0,.cells [zH yE K .no,.mp 1 0,ai S,ai T,at' U,zH zN R .no,ai B,ai C,at' D,ai E,zH zR t .no,zH zN u .no,zH yH f .no,.mp 3 0,zH zC v .no,ai F,ai G,zH zC w .no,.ms 4 0 a.length a.length 1,.ms 5 0 b.length b.length 1,.ms 6 0 c.length c.length 4,ai z,ai i,ai A,zH zJ g .no,zH zC m .no,zH zC n .no,zH zV p .no,ai H,ai I,zH zC y .no,ai d,ai e]),(1,qB L 2 P Q),(2,qR M N),(3,.cells [ai q,ai s]),(4,.row (zF (yO zI) a)),(5,.row (zF (yO xG) b)),(6,.row (zF zZ c))],7,[],0,[]⟩) (fQ 7 (nQ 7 Tryz.f33 (.tup []) [.cells [zH yE K .no,.mp 1 0,ai S,ai T,at' U,zH zN R .no,ai B,ai C,at' D,ai E,zH zR t .no,zH zN u .no,zH yH f .no,.mp 3 0,zH zC v .no,ai F,ai G,zH zC w .no,.ms 4 0 a.length a.length 1,.ms 5 0 b.length b.length 1,.ms 6 0 c.length c.length 4,ai z,ai i,ai A,zH zJ g .no,zH zC m .no,zH zC n .no,zH zV p .no,ai H,ai I,zH zC y .no,ai r.1,ai r.2.1],qB L 2 P Q,qR M N,.cells [ai r.2.2.1,ai r.2.2.2],.row (zF (yO zI) a),.row (zF (yO xG) b),.row (zF zZ c)] 0) [.blk 2,.blk 1,.seq (pt 15743 Tryz.f33),.loop (pt 245 Tryz.f33),.blk 0]))):=by
 intro V
 induction V with
 |zero=>
  exact⟨fun h=>nn h,fun h=>nn h⟩
 |succ V ih=>
  obtain⟨zBN,dX⟩:=ih
  refine⟨?_,?_⟩
  intro K L M N P Q S T U R B C D E t u f v F G w a b c z i A g m n p H I y r1 J d e q s r h
  rw[mF]at h
  obtain⟨h3,h⟩|⟨h3,h⟩:=xA h
  exact fun j=>lH 1 [] [0,1,2,3,4,5,6] [] [0,2,3,17,18,21,22,23] (oD (tM r1)<|oD (tM r1)<|oD (zQ c)<|oD ((yP yN) b)<|oD ((yP zG) a)<|wS L M N P Q<|oD (dT y)<|oD (zM p)<|oD (dT n)<|oD (dT m)<|oD (zE g)<|oD (dT w)<|oD (dT v)<|qJ K R t u f<|oB 0 h3 o0) (dX h)
  cases h
  exact fun j=>lF 0 [0,1,2,3,4,5,6] (oD (zQ c)<|oD ((yP yN) b)<|oD ((yP zG) a)<|wS L M N P Q<|oD (dT y)<|oD (zM p)<|oD (dT n)<|oD (dT m)<|oD (zE g)<|oD (dT w)<|oD (dT v)<|qJ K R t u f<|oB 0 h3 o0)
  intro K L M N P Q S T U R B C D E t u f v F G w a b c z i A g m n p H I y r1 J W d e q s r h
  rw[mG]at h
  obtain⟨h4,h⟩|⟨h4,h⟩:=xA h
  obtain⟨x5,h6,h⟩:=zD h
  have k:=oA 0 (zSJ (o:=.no) h6)<|oB 0 h4 o0
  obtain⟨h7,h⟩:=zT h
  obtain⟨x8,h9,h⟩:=zD h
  have k:=oA 1 (R3 (o:=.no) h9)<|oB 3 h7 k
  obtain⟨h10,h⟩:=xD h
  have k:=oB 0 h10 k
  obtain⟨h11,h⟩:=xD h
  obtain⟨r12,h13,h⟩:=zD h
  exact fun j=>lH 1 [] [0,1,2,3,4,5,6] [] [0,2,3,17,18,21,22,23] (oD (tM r1)<|oD (tM r1)<|oD (zQ c)<|oD ((yP yN) b)<|oD ((yP zG) a)<|wS L M N P Q<|oD (dT y)<|oD (zM p)<|oD (dT n)<|oD (dT m)<|oD (zE g)<|oD (dT w)<|oD (dT v)<|qJ K R t u f<|oC 1 [0,1,2,3,4,5,6] (zNp h13)<|oB 2 h11 k) (dX h)
  exact fun j=>lH 1 [] [0,1,2,3,4,5,6] [] [0,2,17,18] (oD (tM r1)<|oD (zQ c)<|oD ((yP yN) b)<|oD ((yP zG) a)<|wS L M N P Q<|oD (dT y)<|oD (zM p)<|oD (dT n)<|oD (dT m)<|oD (zE g)<|oD (dT w)<|oD (dT v)<|qJ K R t u f<|oB 0 h4 o0) (zBN h)
theorem zNo{V K L M N P Q S T U R B C D E t u f X Y v F G w a b c z i A g m n p H I y Z q37 r}(h:o6 V K L M N P Q S T U R B C D E t u f X Y v F G w a b c z i A g m n p H I y Z q37=some r):Ct 33 [.cells [zH yE K .no,.mp 1 0,ai S,ai T,at' U,zH zN R .no,ai B,ai C,at' D,ai E,zH zR t .no,zH zN u .no,zH yH f .no,.mp 3 0,zH zC v .no,ai F,ai G,zH zC w .no,.ms 4 0 a.length a.length 1,.ms 5 0 b.length b.length 1,.ms 6 0 c.length c.length 4,ai z,ai i,ai A,zH zJ g .no,zH zC m .no,zH zC n .no,zH zV p .no,ai H,ai I,zH zC y .no,ai Z,ai q37],qB L 2 P Q,qR M N,.cells [ai X,ai Y],.row (zF (yO zI) a),.row (zF (yO xG) b),.row (zF zZ c)] [.mp 0 0] (.tup []) [.cells [zH yE K .no,.mp 1 0,ai S,ai T,at' U,zH zN R .no,ai B,ai C,at' D,ai E,zH zR t .no,zH zN u .no,zH yH f .no,.mp 3 0,zH zC v .no,ai F,ai G,zH zC w .no,.ms 4 0 a.length a.length 1,.ms 5 0 b.length b.length 1,.ms 6 0 c.length c.length 4,ai z,ai i,ai A,zH zJ g .no,zH zC m .no,zH zC n .no,zH zV p .no,ai H,ai I,zH zC y .no,ai r.1,ai r.2.1],qB L 2 P Q,qR M N,.cells [ai r.2.2.1,ai r.2.2.2],.row (zF (yO zI) a),.row (zF (yO xG) b),.row (zF zZ c)] 0:=⟨by
 unfold o6 at h
 obtain⟨r1,h2,h⟩:=zD h
 exact tH ⟨func33,rfl⟩ 2 [] [0,1,2,3,4,5,6] [] [0,2,17,18] (oD (tM r1)<|oD (zQ c)<|oD ((yP yN) b)<|oD ((yP zG) a)<|wS L M N P Q<|oD (dT y)<|oD (zM p)<|oD (dT n)<|oD (dT m)<|oD (zE g)<|oD (dT w)<|oD (dT v)<|qJ K R t u f<|oC 1 [] (c50 h2) o0) ((kK _).1 h),⟨(lz rfl),tv⟩,(zA ⟨⟨tv,dE _⟩,(lz rfl),tv,tv,tv,⟨tv,yC _⟩,tv,tv,tv,tv,⟨tv,zL _⟩,⟨tv,yC _⟩,⟨tv,yT _⟩,(lz rfl),⟨tv,dT _⟩,tv,tv,⟨tv,dT _⟩,(lz rfl),(lz rfl),(lz rfl),tv,tv,tv,⟨tv,zE _⟩,⟨tv,dT _⟩,⟨tv,dT _⟩,⟨tv,zM _⟩,tv,tv,⟨tv,dT _⟩,tv,tv,tv⟩ (vY (lz rfl) (zA ⟨tv,tv,tv⟩ (zA ((yP zG) _) (zA ((yP yN) _) (zA (zQ _) zB)))))),tv,(zA ⟨dE _,(lz rfl),tv,tv,tv,yC _,tv,tv,tv,tv,zL _,yC _,yT _,(lz rfl),dT _,tv,tv,dT _,(lz rfl),(lz rfl),(lz rfl),tv,tv,tv,zE _,dT _,dT _,zM _,tv,tv,dT _,tv,tv,tv⟩ (vQ (lz rfl) (zA ⟨tv,tv,tv⟩ (zA ((yP zG) _) (zA ((yP yN) _) (zA (zQ _) zB))))))⟩
def pC:Nat->Int->Int->Int->zW->Int->zW->Option (List zW×Int)
 |0,_,_,_,_,_,_=>none
 |d+1,c,b,e,x4,a,f=>
 if decide (a<(x4.length:Int))then
 yG x4 a>>=fun x7=>
 e92 d x7>>=fun r9=>
 yV 40 f [r9]>>=fun l11=>
 pC d c b e x4 (xE (a+1)) l11
 else
 yV 24 ([]:List zW) [f]>>=fun l13=>
 some (l13,e)
def M1(d:Nat)(c b e:Int)(g:zW):Option (List zW×Int):=
 if decide ((g.length:Int)<b)then
 none
 else
 C4 g 0 b>>=fun x4=>
 pC d c b e x4 0 []
theorem zBO:∀d:Nat,(∀ {c b e x4 a f r},pC d c b e x4 a f=some r->(∀j,dL 1 (pt 16309 f347) (sp j 51 0 [(0,.mp 0 0),(4,zH zC f (.st 0 3)),(29,zH zC x4 .no),(30,ai (x4.length:Int)),(31,ai a)]) (⟨[(0,.cells [ai c,ai b,.ms 1 0 (List.length ([]:List zW)) (List.length ([]:List zW)) 1,ai e]),(1,.row (zF (yO zC) ([]:List zW)))],2,[0],1,[]⟩) (fQ 1 (nQ 1 f347 (.tup []) [.cells [ai c,ai b,.ms 1 0 r.1.length r.1.length 1,ai r.2],.row (zF (yO zC) r.1)] 0) [.blk 0,.seq (pt 255 f347)]))):=by
 intro d
 induction d with
 |zero=>
  exact fun h=>nn h
 |succ d ih=>
  intro c b e x4 a f r h
  rw[pC]at h
  obtain⟨h6,h⟩|⟨h6,h⟩:=xA h
  obtain⟨x7,h8,h⟩:=zD h
  obtain⟨r9,h10,h⟩:=zD h
  obtain⟨l11,h12,h⟩:=zD h
  exact fun j=>lH 1 [] [0,1] [1] [0,4,29,30,31] (oD (dT x4)<|oD (dT l11)<|oD ((yP xM) ([]:List zW))<|oP 0 (vO h12 (by simp))<|oS 0 (xL xU [r9])<|oC 3 [] (c92 h10)<|oA 0 (wN (o:=.no) h8)<|oB 0 h6 o0) (ih h)
  obtain⟨l13,h14,h⟩:=zD h
  cases h
  exact fun j=>lF 1 [0,2] (oD ((yP xM) l13)<|oM 2 (zOa h14 (by simp))<|oB 0 h6 o0)
theorem zBP{d c b e g r}(h:M1 d c b e g=some r):Ct 347 [.cells [ai c,ai b,zH (yO zC) ([]:List zW) .nl,ai e]] [.mp 0 0,zH zC g .no] (.tup []) [.cells [ai c,ai b,.ms 1 0 r.1.length r.1.length 1,ai r.2],.row (zF (yO zC) r.1)] 0:=⟨by
 unfold M1 at h
 obtain⟨h1,h⟩:=zT h
 obtain⟨x4,h5,h⟩:=zD h
 exact tH ⟨func347,rfl⟩ 1 [(some 0,2,4097),(none,4,3)] [0,1] [0] [0,4,29,30,31] (oD (dT x4)<|oD (dT ([]:zW))<|oD ((yP xM) ([]:List zW))<|oA 4 (zOL h5)<|oB 2 h1 o0) (zBO _ h),⟨(lz rfl),⟨tv,dT _⟩,tv⟩,(zA ⟨tv,tv,⟨tv,(yP xM) _⟩,tv,tv⟩ zB),tv,(zA ⟨tv,tv,(lz rfl),tv,tv⟩ (zA ((yP xM) _) zB))⟩
def kL(f:Nat)(p:Tm)(b e s c:Int)(a:List zW):Option (List zW×Int):=
 if decide (s<(p.sub.length:Int))then
 none
 else
 some (a,c)
def fV(f:Nat)(p:Tm)(b e:Int)(g:List zW)(t:Int):Option (List zW×Int):=
 kL f p b e 0 t g
def kM(f:Nat)(m b:Int)(r1:Tm×zW)(q d:Int)(a:List zW):Option (List zW×Int):=
 if decide (q<(r1.2.length:Int))then
 none
 else
 some (a,d)
def M2(f:Nat)(m b:Int)(e:List zW)(g:Int)(u:Tm):Option (List zW×Int):=
 cF f u>>=fun r1=>
 if r1.1.k==8 then
 if r1.1.n==m then
 none
 else
 fV f r1.1 m b e g>>=fun r9=>
 kM f m b r1 0 r9.2 r9.1
 else
 none
theorem zBQ{f p b e s c a r}(h:kL f p b e s c a=some r):(∀j,dL 3 (pt 245 f348) (sp j 17 0 [(1,.clo 349 [] [.mp 0 0]),(7,zH zC p.sub .no),(8,ai (p.sub.length:Int)),(9,ai s)]) (⟨[(0,.cells [.mp 1 0]),(1,.cells [ai b,ai e,.ms 3 0 a.length a.length 1,ai c]),(2,.dead),(3,.row (zF (yO zC) a))],4,[],0,[]⟩) (fQ 3 (nQ 3 f348 (.tup []) [.cells [.mp 1 0],.cells [ai b,ai e,.ms 3 0 r.1.length r.1.length 1,ai r.2],.dead,.row (zF (yO zC) r.1)] 0) [.blk 0])):=by
 unfold kL at h
 obtain⟨h1,h⟩:=zT h
 cases h
 exact fun j=>lF 0 [0,1,2,3] (oD ((yP xM) a)<|oB 0 h1 o0)
theorem M3{f p b e g t r}(h:fV f p b e g t=some r):Ct 348 [.cells [.mp 1 0],.cells [ai b,ai e,.ms 2 0 g.length g.length 1,ai t],.row (zF (yO zC) g)] [xF p,.clo 349 [] [.mp 0 0]] (.tup []) [.cells [.mp 1 0],.cells [ai b,ai e,.ms 3 0 r.1.length r.1.length 1,ai r.2],.dead,.row (zF (yO zC) r.1)] 0:=⟨by
 unfold fV at h
 exact tH ⟨func348,rfl⟩ 2 [(some 2,0,0)] [0,1,2,4] [] [1,7,8,9] (oD (dT p.sub)<|oD ((yP xM) g) o0) (zBQ h),⟨⟨tv,tv,⟨tv,dT _⟩,tv⟩,⟨tv,⟨(lz rfl),tv⟩⟩,tv⟩,(zA ⟨(lz rfl),tv⟩ (zA ⟨tv,tv,(lz rfl),tv,tv⟩ (zA ((yP xM) _) zB))),tv,(zA ⟨(lz rfl),tv⟩ (zA ⟨tv,tv,(lz rfl),tv,tv⟩ (zA tv (zA ((yP xM) _) zB))))⟩
theorem zBR{f m b r1 q d a r}(h:kM f m b r1 q d a=some r):(∀j,dL 2 (pt 16373 f256) (sp j 41 0 [(2,.mp 2 0),(31,zH zC r1.2 .no),(32,ai (r1.2.length:Int)),(33,ai q)]) (⟨[(0,.cells [ai m,ai b,.ms 3 0 a.length a.length 1,ai d]),(1,.dead),(2,.cells [.mp 0 0]),(3,.row (zF (yO zC) a))],4,[],0,[]⟩) (fQ 2 (nQ 2 f256 (.tup []) [.cells [ai m,ai b,.ms 2 0 r.1.length r.1.length 1,ai r.2],.dead,.row (zF (yO zC) r.1)] 0) [.blk 0])):=by
 unfold kM at h
 obtain⟨h9,h⟩:=zT h
 cases h
 exact fun j=>lF 0 [0,1,3] (oD ((yP xM) a)<|oB 0 h9 o0)
theorem zJF{f m b e g u r}(h:M2 f m b e g u=some r):Ct 256 [.cells [ai m,ai b,.ms 1 0 e.length e.length 1,ai g],.row (zF (yO zC) e)] [.mp 0 0,xF u] (.tup []) [.cells [ai m,ai b,.ms 2 0 r.1.length r.1.length 1,ai r.2],.dead,.row (zF (yO zC) r.1)] 0:=⟨by
 unfold M2 at h
 obtain⟨r1,h2,h⟩:=zD h
 have k:=oC 1 [] (E7 h2) o0
 obtain⟨h3,h⟩:=xD h
 have k:=oB 4 h3 k
 obtain⟨h4,h⟩:=zT h
 obtain⟨r9,h10,h⟩:=zD h
 exact tH ⟨func256,rfl⟩ 1 [] [0,1,2,5] [] [2,31,32,33] (oD (dT r1.2)<|oD ((yP xM) r9.1)<|oC 1 [2,0,1] (M3 h10)<|oB 3 h4 k) (zBR h),⟨(lz rfl),⟨tv,tv,⟨tv,dT _⟩,tv⟩,tv⟩,(zA ⟨tv,tv,(lz rfl),tv,tv⟩ (zA ((yP xM) _) zB)),tv,(zA ⟨tv,tv,(lz rfl),tv,tv⟩ (zA tv (zA ((yP xM) _) zB)))⟩
end Go.Proofs.YthncfoeaibgmnaaGreat
