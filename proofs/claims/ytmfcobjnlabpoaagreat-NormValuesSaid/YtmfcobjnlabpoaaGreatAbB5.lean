/- Texts: AbF205 AbF206 AbSd AbF139 AbF204 AbF140 AbF73 AbSe AbF70 AbF18 AbF71 AbF20 AbPe AbF85 AbF30 AbF168 AbF116 AbPf AbF207 AbF208 AbF77 AbF209 AbF76 AbF78 AbF79 AbF86 AbF87 AbSf AbF141 AbF142 AbSg AbF74 AbF75 AbF23 AbSh AbF31 AbSk AbF265 AbF198 AbF200 AbF266 AbF165 AbF267 AbF152 AbF313 AbF135va22461_199va26991_268va27343_269va22461 AbRj AbRk AbRl AbF108 AbF134va30903 AbF184 AbF133va24069 AbF67 AbRm AbF68 AbF68va14437 AbF68va17286 AbF68va53055 AbF16 AbF91 AbRg AbF67va18876 AbF67va29373 AbF67va30710 AbF15 AbRv AbF21 AbF72 AbF22 AbF25 AbF26 AbTe AbF170 AbF392 AbTk AbF192 AbF355 AbF381 AbF382 AbF356 AbF329 AbF403 AbF401 AbTl AbF32 AbF27 AbF143 AbF80 AbF81 AbF144 AbF221 AbF220va64692 AbF155 AbF145 AbF213 AbF214 AbF147 AbF82 AbF28 AbF84va2970 AbF29 AbF6 AbTh AbF396 AbF404 AbF402 AbF400 AbF394 AbF395 AbF399 AbTm AbF393 AbF397 AbF383 -/
import Derived.KernelRfl
import Derived.Test.YtmfcobjnlabpoaaGreatAbB4
set_option linter.unusedVariables false
set_option linter.unusedSimpArgs false
set_option linter.unusedSectionVars false
namespace Go.Proofs.YtmfcobjnlabpoaaGreat
open Go Go.Ab
def e205(qq:Nat)(p0:Int):Option (Bool):=
 if decide (p0≥97)then
 if decide (p0≤122)then
 some true
 else
 if decide (p0≥65)then
 if decide (p0≤90)then
 some true
 else
 if decide (p0≥128)then
 e276 qq p0>>=fun r6=>
 if r6 then
 e277 qq p0>>=fun r9=>
 if r9 then
 some false
 else
 if p0 != 160 then
 if decide (p0≥8192)then
 some (!(decide (p0≤8303)))
 else
 some true
 else
 some false
 else
 some false
 else
 some false
 else
 if decide (p0≥128)then
 e276 qq p0>>=fun r15=>
 if r15 then
 e277 qq p0>>=fun r18=>
 if r18 then
 some false
 else
 if p0 != 160 then
 if decide (p0≥8192)then
 some (!(decide (p0≤8303)))
 else
 some true
 else
 some false
 else
 some false
 else
 some false
 else
 if decide (p0≥65)then
 if decide (p0≤90)then
 some true
 else
 if decide (p0≥128)then
 e276 qq p0>>=fun r26=>
 if r26 then
 e277 qq p0>>=fun r29=>
 if r29 then
 some false
 else
 if p0 != 160 then
 if decide (p0≥8192)then
 some (!(decide (p0≤8303)))
 else
 some true
 else
 some false
 else
 some false
 else
 some false
 else
 if decide (p0≥128)then
 e276 qq p0>>=fun r35=>
 if r35 then
 e277 qq p0>>=fun r38=>
 if r38 then
 some false
 else
 if p0 != 160 then
 if decide (p0≥8192)then
 some (!(decide (p0≤8303)))
 else
 some true
 else
 some false
 else
 some false
 else
 some false
abbrev K205 (p0:Int) (r:Bool) (C:Cf):Prop:=C 205 [] [ai p0] (ab r) [] 0
theorem q205:Qf 205 Tryz.f205:=⟨Tryz.func205,by kernel_rfl⟩
theorem k205{p0 r}(h:K205 p0 r Ci):K205 p0 r Ct:=⟨h,⟨tv,tv⟩,forall_nil,tv,forall_nil⟩
theorem c205{qq p0 r}(h:e205 qq p0=some r):K205 p0 r Ct:=by
 unfold e205 at h
 rcases spl h with⟨h1,h⟩|⟨h1,h⟩
 have k:=oB 0 h1 o0
 rcases spl h with⟨h2,h⟩|⟨h2,h⟩
 obtain rfl:=sj h
 exact k205 (tF q205 0 [] (oB 0 h2 k))
 have k:=oB 0 h2 k
 rcases spl h with⟨h3,h⟩|⟨h3,h⟩
 have k:=oB 0 h3 k
 rcases spl h with⟨h4,h⟩|⟨h4,h⟩
 obtain rfl:=sj h
 exact k205 (tF q205 0 [] (oB 0 h4 k))
 have k:=oB 0 h4 k
 rcases spl h with⟨h5,h⟩|⟨h5,h⟩
 obtain⟨r6,h7,h⟩:=obind h
 have k:=oB 0 h5 k
 rcases spl h with⟨h8,h⟩|⟨h8,h⟩
 obtain⟨r9,h10,h⟩:=obind h
 have k:=oK 0 [] h8 (c276 h7) k
 rcases spl h with⟨h11,h⟩|⟨h11,h⟩
 obtain rfl:=sj h
 exact k205 (tF q205 1 [] (oK 0 [] h11 (c277 h10) k))
 have k:=oK 0 [] h11 (c277 h10) k
 rcases spl h with⟨h12,h⟩|⟨h12,h⟩
 have k:=oB 1 h12 k
 rcases spl h with⟨h13,h⟩|⟨h13,h⟩
 obtain rfl:=sj h
 exact k205 (tF q205 2 [] (oB 0 h13 k))
 obtain rfl:=sj h
 exact k205 (tF q205 1 [] (oB 0 h13 k))
 obtain rfl:=sj h
 exact k205 (tF q205 0 [] (oB 1 h12 k))
 obtain rfl:=sj h
 exact k205 (tF q205 0 [] (oK 0 [] h8 (c276 h7) k))
 obtain rfl:=sj h
 exact k205 (tF q205 0 [] (oB 0 h5 k))
 have k:=oB 0 h3 k
 rcases spl h with⟨h14,h⟩|⟨h14,h⟩
 obtain⟨r15,h16,h⟩:=obind h
 have k:=oB 0 h14 k
 rcases spl h with⟨h17,h⟩|⟨h17,h⟩
 obtain⟨r18,h19,h⟩:=obind h
 have k:=oK 0 [] h17 (c276 h16) k
 rcases spl h with⟨h20,h⟩|⟨h20,h⟩
 obtain rfl:=sj h
 exact k205 (tF q205 1 [] (oK 0 [] h20 (c277 h19) k))
 have k:=oK 0 [] h20 (c277 h19) k
 rcases spl h with⟨h21,h⟩|⟨h21,h⟩
 have k:=oB 1 h21 k
 rcases spl h with⟨h22,h⟩|⟨h22,h⟩
 obtain rfl:=sj h
 exact k205 (tF q205 2 [] (oB 0 h22 k))
 obtain rfl:=sj h
 exact k205 (tF q205 1 [] (oB 0 h22 k))
 obtain rfl:=sj h
 exact k205 (tF q205 0 [] (oB 1 h21 k))
 obtain rfl:=sj h
 exact k205 (tF q205 0 [] (oK 0 [] h17 (c276 h16) k))
 obtain rfl:=sj h
 exact k205 (tF q205 0 [] (oB 0 h14 k))
 have k:=oB 0 h1 o0
 rcases spl h with⟨h23,h⟩|⟨h23,h⟩
 have k:=oB 0 h23 k
 rcases spl h with⟨h24,h⟩|⟨h24,h⟩
 obtain rfl:=sj h
 exact k205 (tF q205 0 [] (oB 0 h24 k))
 have k:=oB 0 h24 k
 rcases spl h with⟨h25,h⟩|⟨h25,h⟩
 obtain⟨r26,h27,h⟩:=obind h
 have k:=oB 0 h25 k
 rcases spl h with⟨h28,h⟩|⟨h28,h⟩
 obtain⟨r29,h30,h⟩:=obind h
 have k:=oK 0 [] h28 (c276 h27) k
 rcases spl h with⟨h31,h⟩|⟨h31,h⟩
 obtain rfl:=sj h
 exact k205 (tF q205 1 [] (oK 0 [] h31 (c277 h30) k))
 have k:=oK 0 [] h31 (c277 h30) k
 rcases spl h with⟨h32,h⟩|⟨h32,h⟩
 have k:=oB 1 h32 k
 rcases spl h with⟨h33,h⟩|⟨h33,h⟩
 obtain rfl:=sj h
 exact k205 (tF q205 2 [] (oB 0 h33 k))
 obtain rfl:=sj h
 exact k205 (tF q205 1 [] (oB 0 h33 k))
 obtain rfl:=sj h
 exact k205 (tF q205 0 [] (oB 1 h32 k))
 obtain rfl:=sj h
 exact k205 (tF q205 0 [] (oK 0 [] h28 (c276 h27) k))
 obtain rfl:=sj h
 exact k205 (tF q205 0 [] (oB 0 h25 k))
 have k:=oB 0 h23 k
 rcases spl h with⟨h34,h⟩|⟨h34,h⟩
 obtain⟨r35,h36,h⟩:=obind h
 have k:=oB 0 h34 k
 rcases spl h with⟨h37,h⟩|⟨h37,h⟩
 obtain⟨r38,h39,h⟩:=obind h
 have k:=oK 0 [] h37 (c276 h36) k
 rcases spl h with⟨h40,h⟩|⟨h40,h⟩
 obtain rfl:=sj h
 exact k205 (tF q205 1 [] (oK 0 [] h40 (c277 h39) k))
 have k:=oK 0 [] h40 (c277 h39) k
 rcases spl h with⟨h41,h⟩|⟨h41,h⟩
 have k:=oB 1 h41 k
 rcases spl h with⟨h42,h⟩|⟨h42,h⟩
 obtain rfl:=sj h
 exact k205 (tF q205 2 [] (oB 0 h42 k))
 obtain rfl:=sj h
 exact k205 (tF q205 1 [] (oB 0 h42 k))
 obtain rfl:=sj h
 exact k205 (tF q205 0 [] (oB 1 h41 k))
 obtain rfl:=sj h
 exact k205 (tF q205 0 [] (oK 0 [] h37 (c276 h36) k))
 obtain rfl:=sj h
 exact k205 (tF q205 0 [] (oB 0 h34 k))
def e206(qq:Nat)(p0:Int):Option (Bool):=
 if decide (p0≥48)then
 some (decide (p0≤57))
 else
 some false
abbrev K206 (p0:Int) (r:Bool) (C:Cf):Prop:=C 206 [] [ai p0] (ab r) [] 0
theorem q206:Qf 206 Tryz.f206:=⟨Tryz.func206,by kernel_rfl⟩
theorem k206{p0 r}(h:K206 p0 r Ci):K206 p0 r Ct:=⟨h,⟨tv,tv⟩,forall_nil,tv,forall_nil⟩
theorem c206{qq p0 r}(h:e206 qq p0=some r):K206 p0 r Ct:=by
 unfold e206 at h
 rcases spl h with⟨h1,h⟩|⟨h1,h⟩
 obtain rfl:=sj h
 exact k206 (tF q206 1 [] (oB 0 h1 o0))
 obtain rfl:=sj h
 exact k206 (tF q206 0 [] (oB 0 h1 o0))
def sgsT:Nat->List Int->Option (List Int)
 |0,_=>some []
 |_+1,[]=>some []
 |m+1,c::r=>match decT (c::r)with
  |some (n,w)=>(sgsT m ((c::r).drop w)).map fun L=>n::L
  |none=>none
theorem sgs_put:∀(m:Nat) (l L:List Int),(∀c∈l,0≤c∧c<256)->l.length≤m->sgsT m l=some L->l=L.flatMap putT
 |0,l,L,_,hl,h=>by
  rw[sgsT]at h;cases h
  cases l with
  |nil=>rfl
  |cons _ _=>simp at hl
 |m+1,[],L,_,_,h=>by rw[sgsT]at h;cases h;rfl
 |m+1,c::r,L,hb,hl,h=>by
  rw[sgsT]at h
  cases hd:decT (c::r)with
  |none=>rw[hd]at h;cases h
  |some x=>
   obtain⟨n,w⟩:=x
   rw[hd]at h
   obtain⟨L',hL,rfl⟩:=Option.map_eq_some_iff.1 h
   obtain⟨h1,-,h3,-,-⟩:=num_dec hb hd
   have:=sgs_put m ((c::r).drop w) L' (fun x hx=>hb x (List.mem_of_mem_drop hx)) (by rw[List.length_drop];omega) hL
   rw[List.flatMap_cons,←this]
   exact(dec_some hb hd).2.2
def AllIs(s:ByteArray)(acc:List Int)(m a:Nat)(f:Nat->Option (List Int×Int×Int)):Prop:=
 (∃L,sgsT m ((bs s).drop a)=some L∧Evt f (acc++L,(s.size:Int),0))∨(sgsT m ((bs s).drop a)=none∧∃i,Evt f ([],i,1))
theorem sgs_nil(m:Nat):sgsT m []=some []:=by cases m<;>rw[sgsT]
theorem sgs_cons(m:Nat){l:List Int}(h:l≠[]):sgsT (m+1) l=match decT l with
  |some (n,w)=>(sgsT m (l.drop w)).map fun L=>n::L
  |none=>none:=by
 cases l with
 |nil=>exact absurd rfl h
 |cons c r=>rw[sgsT]
theorem all_step{s:ByteArray}{acc:List Int}{m a w:Nat}{n:Int}{f g:Nat->Option (List Int×Int×Int)}(ha:a<s.size)(hd:decT ((bs s).drop a)=some (n,w))(h:AllIs s (acc++[n]) m (a+w) f)(k:∀r,Evt f r->Evt g r):AllIs s acc (m+1) a g:=by
 have hne:(bs s).drop a≠[]:=fun e=>by have:=congrArg List.length e;rw[List.length_drop,bs_len]at this;simp at this;omega
 have e:sgsT (m+1) ((bs s).drop a)=(sgsT m ((bs s).drop (a+w))).map fun L=>n::L:=by rw[sgs_cons m hne,hd];simp only[List.drop_drop]
 rcases h with⟨L,h1,h2⟩|⟨h1,i,h2⟩
 ·exact .inl ⟨n::L,by rw[e,h1];rfl,k _ (by simpa using h2)⟩
 ·exact .inr ⟨by rw[e,h1];rfl,i,k _ h2⟩
theorem all_bad{s:ByteArray}{acc:List Int}{m a:Nat}{i:Int}{g:Nat->Option (List Int×Int×Int)}(ha:a<s.size)(hd:decT ((bs s).drop a)=none)(k:Evt g ([],i,1)):AllIs s acc (m+1) a g:=by
 have hne:(bs s).drop a≠[]:=fun e=>by have:=congrArg List.length e;rw[List.length_drop,bs_len]at this;simp at this;omega
 exact .inr ⟨by rw[sgs_cons m hne,hd],i,k⟩
theorem all_end{s:ByteArray}{acc:List Int}{m a:Nat}{g:Nat->Option (List Int×Int×Int)}(ha:s.size≤a)(k:Evt g (acc,(s.size:Int),0)):AllIs s acc m a g:=by
 have e:(bs s).drop a=[]:=List.drop_eq_nil_of_le (by rw[bs_len];exact ha)
 exact .inl ⟨[],by rw[e,sgs_nil],by simpa using k⟩
theorem dec_w{s:ByteArray}{a w:Nat}{n:Int}(hd:decT ((bs s).drop a)=some (n,w)):1≤w∧a+w≤s.size∧w≤4:=by
 obtain⟨h1,h2,h3,-,-⟩:=num_dec (fun c hc=>bs_mem (List.mem_of_mem_drop hc)) hd
 rw[List.length_drop,bs_len]at h3
 exact⟨h1,by omega,h2⟩
theorem ev_uAllL(s:ByteArray)(hs:s.size≤65535):∀(m a:Nat) (acc:List Int),s.size≤a+m->acc.length≤a->a≤s.size->AllIs s acc m a (fun q=>e320Lav q s acc (a:Int))
 |0,a,acc,hm,hl,_=>all_end (by omega) (Evt.succ (by simp only[e320Lav];exact Evt.ifF (decide_eq_false (by omega)) Evt.ret))
 |m+1,a,acc,hm,hl,hle=>by
  by_cases ha:a<s.size
  ·have hx:=ev_uNext s a hs ha
   cases hd:decT ((bs s).drop a)with
   |none=>
    rw[hd]at hx
    exact all_bad (i:=(a:Int)) ha hd (Evt.succ (by simp only[e320Lav];exact Evt.ifT (decide_eq_true (by omega)) (hx.bind (Evt.ifT rfl Evt.ret))))
   |some x=>
    obtain⟨n,w⟩:=x
    rw[hd]at hx
    have hw:=dec_w hd
    refine all_step ha hd (ev_uAllL s hs m (a+w) (acc++[n]) (by omega) (by simp;omega) hw.2.1) fun r hr=>Evt.succ ?_
    simp only[e320Lav]
    refine Evt.ifT (decide_eq_true (by omega)) (hx.bind (Evt.ifF rfl (Evt.pure (gapp_ok (by simp;omega)) ?_)))
    have e:w64 ((a:Int)+(nxtP (some (n,w))).2.1)=((a+w:Nat):Int):=by simp only[nxtP];rw[w64_id (by omega) (by omega)];omega
    rw[e];exact hr
  ·exact all_end (by omega) (Evt.succ (by simp only[e320Lav];exact Evt.ifF (decide_eq_false (by omega)) Evt.ret))
theorem ev_rAllL(s:ByteArray)(hs:s.size≤65535):∀(m a:Nat) (acc:List Int),s.size≤a+m->acc.length≤a->a≤s.size->AllIs s acc m a (fun q=>e203Lcj q s acc (a:Int))
 |0,a,acc,hm,hl,_=>all_end (by omega) (Evt.succ (by simp only[e203Lcj];exact Evt.ifF (decide_eq_false (by omega)) Evt.ret))
 |m+1,a,acc,hm,hl,hle=>by
  by_cases ha:a<s.size
  ·have hx:=ev_rNext s a hs ha
   cases hd:decT ((bs s).drop a)with
   |none=>
    rw[hd]at hx
    exact all_bad (i:=(a:Int)) ha hd (Evt.succ (by simp only[e203Lcj];exact Evt.ifT (decide_eq_true (by omega)) (hx.bind (Evt.ifF rfl Evt.ret))))
   |some x=>
    obtain⟨n,w⟩:=x
    rw[hd]at hx
    have hw:=dec_w hd
    refine all_step ha hd (ev_rAllL s hs m (a+w) (acc++[n]) (by omega) (by simp;omega) hw.2.1) fun r hr=>Evt.succ ?_
    simp only[e203Lcj]
    refine Evt.ifT (decide_eq_true (by omega)) (hx.bind (Evt.ifT rfl (Evt.pure (gapp_ok (by simp;omega)) ?_)))
    have e:w64 ((a:Int)+(nxtR (some (n,w))).2.1)=((a+w:Nat):Int):=by simp only[nxtR];rw[w64_id (by omega) (by omega)];omega
    rw[e];exact hr
  ·exact all_end (by omega) (Evt.succ (by simp only[e203Lcj];exact Evt.ifF (decide_eq_false (by omega)) Evt.ret))
def txtT(s:ByteArray):Option (List Int):=if s.size≤65535 then sgsT s.size (bs s)else none
theorem ev_uAll(s:ByteArray):(∃L,txtT s=some L∧Evt (fun q=>e320 q s) (L,(s.size:Int),0))∨(txtT s=none∧∃r,Evt (fun q=>e320 q s) r∧r.2.2≠0):=by
 simp only[e320]
 unfold txtT
 by_cases h:s.size≤65535
 ·rw[if_pos h]
  rcases ev_uAllL s h s.size 0 [] (by omega) (by simp) (by omega)with⟨L,h1,h2⟩|⟨h1,i,h2⟩
  ·exact .inl ⟨L,by simpa using h1,Evt.ifF (decide_eq_false (by omega)) (by simpa using h2)⟩
  ·exact .inr ⟨by simpa using h1,_,Evt.ifF (decide_eq_false (by omega)) h2,by show (1:Int)≠0;decide⟩
 ·rw[if_neg h]
  exact .inr ⟨rfl,_,Evt.ifT (decide_eq_true (by omega)) Evt.ret,by decide⟩
theorem ev_rAll(s:ByteArray):(∃L,txtT s=some L∧Evt (fun q=>e203 q s) (L,(s.size:Int),0))∨(txtT s=none∧∃r,Evt (fun q=>e203 q s) r∧r.2.2≠0):=by
 simp only[e203]
 unfold txtT
 by_cases h:s.size≤65535
 ·rw[if_pos h]
  rcases ev_rAllL s h s.size 0 [] (by omega) (by simp) (by omega)with⟨L,h1,h2⟩|⟨h1,i,h2⟩
  ·exact .inl ⟨L,by simpa using h1,Evt.ifF (decide_eq_false (by omega)) (by simpa using h2)⟩
  ·exact .inr ⟨by simpa using h1,_,Evt.ifF (decide_eq_false (by omega)) h2,by show (1:Int)≠0;decide⟩
 ·rw[if_neg h]
  exact .inr ⟨rfl,_,Evt.ifT (decide_eq_true (by omega)) Evt.ret,by decide⟩
def marks:List Int:=[40,41,123,125,58,61,46,44,59,124,92,955,8594,45,62]
def mkT(n:Int):Bool:=decide (n∈marks)
def ascT(n:Int):Bool:=decide ((97≤n∧n≤122)∨(65≤n∧n≤90))
def highT(n:Int):Bool:=sgnT n && !mkT n&&decide (n≠160∧(n<8192∨8303<n))
def letT(n:Int):Bool:=if n<128 then ascT n else highT n
def digT(n:Int):Bool:=decide (48≤n∧n≤57)
theorem ev_uMark(n:Int):Evt (fun q=>e354 q n) (mkT n):=by
 simp only[e354]
 have yes:∀k:Int,k∈marks->(n==k)=true->true=mkT n:=fun k hk h=>by
  have:n=k:=by simpa using h
  subst this
  exact(decide_eq_true hk).symm
 repeat' (first|exact Evt.ret.eq (yes _ (by simp[marks]) h)|refine Evt.iff (fun h=>?_) (fun h=>?_))
 refine Evt.ret.eq (decide_eq_false fun hm=>?_).symm
 clear yes
 simp only[marks,List.mem_cons,List.not_mem_nil,or_false]at hm
 rcases hm with rfl|rfl|rfl|rfl|rfl|rfl|rfl|rfl|rfl|rfl|rfl|rfl|rfl|rfl|rfl<;>simp_all
theorem ev_in(l:List Int)(n:Int)(hl:l.length≤100):∀(r:List Int) (v:Nat),l.drop v=r->Evt (fun q=>e316Lck q l n (v:Int)) (decide (n∈r))
 | [],v,hd=>by
  refine Evt.succ ?_
  simp only[e316Lck]
  exact Evt.ifF (drop_nil hd) (Evt.ret.eq (by simp))
 |x::r,v,hd=>by
  have hlt:=drop_lt hd
  refine Evt.succ ?_
  simp only[e316Lck]
  refine Evt.ifT (drop_dec hd) (Evt.pure (drop_idx hd) ?_)
  by_cases h:x=n
  ·exact Evt.ifT (by simpa using h) (Evt.ret.eq (by simp[h]))
  ·refine Evt.ifF (by simpa using h) ?_
   rw[w64_nat v (by omega)]
   exact(ev_in l n hl r (v+1) (drop_next hd)).eq (by
    have:¬n=x:=fun e=>h e.symm
    simp[this])
theorem ev_rMark(n:Int):Evt (fun q=>e277 q n) (mkT n):=by
 simp only[e277,e316]
 exact(ev_in marks n (by decide) marks 0 rfl).bind Evt.ret
theorem ev_uLetter(n:Int):Evt (fun q=>e323 q n) (letT n):=by
 simp only[e323]
 unfold letT
 by_cases h:n<128
 ·rw[if_pos h]
  refine Evt.ifT (decide_eq_true h) ?_
  unfold ascT
  refine Evt.iff (fun h1=>Evt.iff (fun h2=>Evt.ret.eq ?_) fun h2=>Evt.iff (fun h3=>Evt.ret.eq ?_) fun h3=>Evt.ret.eq ?_) fun h1=>Evt.iff (fun h3=>Evt.ret.eq ?_) fun h3=>Evt.ret.eq ?_
  all_goals simp only[decide_eq_true_eq,decide_eq_false_iff_not]at *
  ·exact(decide_eq_true (by omega)).symm
  ·exact decide_eq_decide.2 (by omega)
  ·exact(decide_eq_false (by omega)).symm
  ·exact decide_eq_decide.2 (by omega)
  ·exact(decide_eq_false (by omega)).symm
 ·rw[if_neg h]
  refine Evt.ifF (decide_eq_false h) ((ev_uRight n).bind ?_)
  unfold highT
  cases sgnT n with
  |false=>exact Evt.ifF rfl (Evt.ret.eq (by simp))
  |true=>
   refine Evt.ifT rfl ((ev_uMark n).bind ?_)
   cases mkT n with
   |true=>exact Evt.ifT rfl (Evt.ret.eq (by simp))
   |false=>
    refine Evt.ifF rfl (Evt.iff (fun h1=>Evt.iff (fun h2=>Evt.ret.eq ?_) fun h2=>Evt.ret.eq ?_) fun h1=>Evt.ret.eq ?_)
    all_goals simp only[decide_eq_true_eq,decide_eq_false_iff_not,bne_iff_ne,bne_eq_false_iff_eq,Bool.true_and,Bool.not_false,ne_eq]at *
    ·exact(decide_eq_true (by omega)).symm
    ·exact decide_eq_decide.2 (by omega)
    ·exact(decide_eq_false (by omega)).symm
theorem ev_rLetter(n:Int):Evt (fun q=>e205 q n) (letT n):=by
 have hi:128≤n->Evt (fun q=>e276 q n>>=fun r6=>if r6=true then e277 q n>>=fun r9=>if r9=true then some false else if (n != 160)=true then if decide (n≥8192)=true then some (!(decide (n≤8303)))else some true else some false else some false) (letT n):=fun h=>by
  have e:letT n=highT n:=by unfold letT;rw[if_neg (by omega)]
  rw[e]
  refine(ev_sgnR n).bind ?_
  unfold highT
  cases sgnT n with
  |false=>exact Evt.ifF rfl (Evt.ret.eq (by simp))
  |true=>
   refine Evt.ifT rfl ((ev_rMark n).bind ?_)
   cases mkT n with
   |true=>exact Evt.ifT rfl (Evt.ret.eq (by simp))
   |false=>
    refine Evt.ifF rfl (Evt.iff (fun h1=>Evt.iff (fun h2=>Evt.ret.eq ?_) fun h2=>Evt.ret.eq ?_) fun h1=>Evt.ret.eq ?_)
    all_goals simp only[decide_eq_true_eq,decide_eq_false_iff_not,bne_iff_ne,bne_eq_false_iff_eq,Bool.true_and,Bool.not_false,ne_eq]at *
    ·by_cases h3:n≤8303
     ·rw[decide_eq_true h3,decide_eq_false (by omega)];rfl
     ·rw[decide_eq_false h3,decide_eq_true (by omega)];rfl
    ·exact(decide_eq_true (by omega)).symm
    ·exact(decide_eq_false (by omega)).symm
 have lo:∀b,n<128->(b=true↔(97≤n∧n≤122)∨(65≤n∧n≤90))->b=letT n:=fun b h k=>by
  unfold letT ascT
  rw[if_pos h]
  cases b with
  |true=>exact(decide_eq_true (k.1 rfl)).symm
  |false=>exact(decide_eq_false fun e=>by have:=k.2 e;cases this).symm
 simp only[e205]
 refine Evt.iff (fun h1=>Evt.iff (fun h2=>Evt.ret.eq ?_) fun h2=>Evt.iff (fun h3=>Evt.iff (fun h4=>Evt.ret.eq ?_) fun h4=>Evt.iff (fun h5=>hi (of_decide_eq_true h5)) fun h5=>Evt.ret.eq ?_) fun h3=>Evt.iff (fun h5=>hi (of_decide_eq_true h5)) fun h5=>Evt.ret.eq ?_)
  fun h1=>Evt.iff (fun h3=>Evt.iff (fun h4=>Evt.ret.eq ?_) fun h4=>Evt.iff (fun h5=>hi (of_decide_eq_true h5)) fun h5=>Evt.ret.eq ?_) fun h3=>Evt.iff (fun h5=>hi (of_decide_eq_true h5)) fun h5=>Evt.ret.eq ?_
 all_goals simp only[decide_eq_true_eq,decide_eq_false_iff_not]at *
 all_goals refine lo _ (by omega) ⟨fun h=>?_,fun h=>?_⟩
 all_goals first|omega|rfl|cases h
 all_goals omega
theorem ev_uDigit(n:Int):Evt (fun q=>e352 q n) (digT n):=by
 simp only[e352]
 unfold digT
 refine Evt.iff (fun h=>Evt.ret.eq ?_) fun h=>Evt.ret.eq ?_
 all_goals simp only[decide_eq_true_eq,decide_eq_false_iff_not]at *
 ·exact decide_eq_decide.2 (by omega)
 ·exact(decide_eq_false (by omega)).symm
theorem ev_rDigit(n:Int):Evt (fun q=>e206 q n) (digT n):=by
 simp only[e206]
 unfold digT
 refine Evt.iff (fun h=>Evt.ret.eq ?_) fun h=>Evt.ret.eq ?_
 all_goals simp only[decide_eq_true_eq,decide_eq_false_iff_not]at *
 ·exact decide_eq_decide.2 (by omega)
 ·exact(decide_eq_false (by omega)).symm
def e139Lcl:Nat->(List ByteArray)->ByteArray->Int->Int->Option (Int)
 |0,_,_,_,_=>none
 |qq+1,p0,p1,v5,v6=>
 if decide (v6<(List.length p0:Int))then
 gidx p0 v6>>=fun x2=>
 if x2.toList==p1.toList then
 e139Lcl qq p0 p1 v6 (w64 (v6+1))
 else
 e139Lcl qq p0 p1 v5 (w64 (v6+1))
 else
 some v5
def e139(qq:Nat)(p0:List ByteArray)(p1:ByteArray):Option (Int):=
 e139Lcl qq p0 p1 (-1) 0
def g139LclE0(j:Nat->Value)(p0:List ByteArray)(p1:ByteArray)(v5 v6:Int):=sp j 21 0 [(0,slv strC p0 .no),(1,at' p1),(5,ai v5),(6,ai v6)]
def g139LclS0(p0:List ByteArray)(p1:ByteArray)(v5 v6:Int):LSt:=⟨[],0,[],0,[]⟩
abbrev K139 (p0:List ByteArray) (p1:ByteArray) (r:Int) (C:Cf):Prop:=C 139 [] [slv strC p0 .no,at' p1] (ai r) [] 0
theorem q139:Qf 139 Tryz.f139:=⟨Tryz.func139,by kernel_rfl⟩
theorem k139{p0 p1 r}(h:K139 p0 p1 r Ci):K139 p0 p1 r Ct:=⟨h,⟨⟨tv,dS _⟩,tv,tv⟩,forall_nil,tv,forall_nil⟩
theorem l139Lcl:∀qq:Nat,(∀p0 p1 v5 v6 r,e139Lcl qq p0 p1 v5 v6=some r->(∀j,Dl Tryz.prog 0 (inn (inn (rgt (lft (rgt (rgt (bod Tryz.f139))))))) (g139LclE0 j p0 p1 v5 v6) (g139LclS0 p0 p1 v5 v6) (frameQ Tryz.prog 0 (FinQ Tryz.prog 0 Tryz.f139 (ai r) [] 0) [.blk 0,.seq (rgt (rgt (rgt (bod Tryz.f139))))]))):=by
 intro qq
 induction qq with
 |zero=>
  exact fun _ _ _ _ _ h=>nn h
 |succ qq ih=>
  intro p0 p1 v5 v6 r h
  rw[e139Lcl]at h
  rcases spl h with⟨h1,h⟩|⟨h1,h⟩
  obtain⟨x2,h3,h⟩:=obind h
  have k:=oA 0 (ix141 (o:=.no) h3)<|oB 1 h1 o0
  rcases spl h with⟨h4,h⟩|⟨h4,h⟩
  exact fun j=>lH 1 [] [] [] [0,1,5,6] (oD (dS p0)<|oB 1 h4 k) (ih _ _ _ _ _ h)
  exact fun j=>lH 1 [] [] [] [0,1,5,6] (oD (dS p0)<|oB 1 h4 k) (ih _ _ _ _ _ h)
  obtain rfl:=sj h
  exact fun j=>lF 0 [] (oB 1 h1 o0)
theorem c139{qq p0 p1 r}(h:e139 qq p0 p1=some r):K139 p0 p1 r Ct:=by
 unfold e139 at h
 exact k139 (tH q139 0 [] [] [] [0,1,5,6] (oD (dS p0) o0) (l139Lcl _ _ _ _ _ _ h))
def e204(qq:Nat)(p0:ByteArray):Option (Bool):=
 if p0.toList==(⟨#[100,97,116,97]⟩:ByteArray).toList then
 some true
 else
 if p0.toList==(⟨#[114,101,99,111,114,100]⟩:ByteArray).toList then
 some true
 else
 if p0.toList==(⟨#[100,101,102]⟩:ByteArray).toList then
 some true
 else
 some (p0.toList==(⟨#[83,101,116]⟩:ByteArray).toList)
abbrev K204 (p0:ByteArray) (r:Bool) (C:Cf):Prop:=C 204 [] [at' p0] (ab r) [] 0
theorem q204:Qf 204 Tryz.f204:=⟨Tryz.func204,by kernel_rfl⟩
theorem k204{p0 r}(h:K204 p0 r Ci):K204 p0 r Ct:=⟨h,⟨tv,tv⟩,forall_nil,tv,forall_nil⟩
theorem c204{qq p0 r}(h:e204 qq p0=some r):K204 p0 r Ct:=by
 unfold e204 at h
 rcases spl h with⟨h1,h⟩|⟨h1,h⟩
 obtain rfl:=sj h
 exact k204 (tF q204 0 [] (oB 0 h1 o0))
 have k:=oB 0 h1 o0
 rcases spl h with⟨h2,h⟩|⟨h2,h⟩
 obtain rfl:=sj h
 exact k204 (tF q204 0 [] (oB 0 h2 k))
 have k:=oB 0 h2 k
 rcases spl h with⟨h3,h⟩|⟨h3,h⟩
 obtain rfl:=sj h
 exact k204 (tF q204 0 [] (oB 0 h3 k))
 obtain rfl:=sj h
 exact k204 (tF q204 1 [] (oB 0 h3 k))
def e140Lcm:Nat->(List Int×Int×Int)->Int->Option (Bool)
 |0,_,_=>none
 |qq+1,r1,v6=>
 if decide (v6<(List.length r1.1:Int))then
 gidx r1.1 v6>>=fun x11=>
 e205 qq x11>>=fun r13=>
 if r13 then
 e140Lcm qq r1 (w64 (v6+1))
 else
 if x11 != 95 then
 if v6==0 then
 some false
 else
 e206 qq x11>>=fun r18=>
 if r18 then
 e140Lcm qq r1 (w64 (v6+1))
 else
 if x11 != 39 then
 some false
 else
 e140Lcm qq r1 (w64 (v6+1))
 else
 e140Lcm qq r1 (w64 (v6+1))
 else
 some true
def e140(qq:Nat)(p0:ByteArray):Option (Bool):=
 e203 qq p0>>=fun r1=>
 if r1.2.2 != 0 then
 some false
 else
 if (p0.size:Int)==0 then
 some false
 else
 if decide ((p0.size:Int)>40)then
 some false
 else
 e204 qq p0>>=fun r6=>
 if r6 then
 some false
 else
 if p0.toList==(⟨#[95]⟩:ByteArray).toList then
 some false
 else
 e140Lcm qq r1 0
def g140LcmE0(j:Nat->Value)(r1:List Int×Int×Int)(v6:Int):=sp j 71 0 [(3,slv intC r1.1 .no),(6,ai v6)]
def g140LcmS0(r1:List Int×Int×Int)(v6:Int):LSt:=⟨[],0,[],0,[]⟩
abbrev K140 (p0:ByteArray) (r:Bool) (C:Cf):Prop:=C 140 [] [at' p0] (ab r) [] 0
theorem q140:Qf 140 Tryz.f140:=⟨Tryz.func140,by kernel_rfl⟩
theorem k140{p0 r}(h:K140 p0 r Ci):K140 p0 r Ct:=⟨h,⟨tv,tv⟩,forall_nil,tv,forall_nil⟩
theorem l140Lcm:∀qq:Nat,(∀r1 v6 r,e140Lcm qq r1 v6=some r->(∀j,Dl Tryz.prog 0 (inn (inn (rgt (lft (rgt (rgt (rgt (bod Tryz.f140)))))))) (g140LcmE0 j r1 v6) (g140LcmS0 r1 v6) (frameQ Tryz.prog 0 (FinQ Tryz.prog 0 Tryz.f140 (ab r) [] 0) [.blk 0,.seq (rgt (rgt (rgt (rgt (bod Tryz.f140)))))]))):=by
 intro qq
 induction qq with
 |zero=>
  exact fun _ _ _ h=>nn h
 |succ qq ih=>
  intro r1 v6 r h
  rw[e140Lcm]at h
  rcases spl h with⟨h10,h⟩|⟨h10,h⟩
  obtain⟨x11,h12,h⟩:=obind h
  obtain⟨r13,h14,h⟩:=obind h
  have k:=oA 0 (ix41 (o:=.no) h12)<|oB 1 h10 o0
  rcases spl h with⟨h15,h⟩|⟨h15,h⟩
  exact fun j=>lH 2 [] [] [] [3,6] (oD (dI r1.1)<|oK 1 [] h15 (c205 h14) k) (ih _ _ _ h)
  have k:=oA 1 (ix41 (o:=.no) h12)<|oK 1 [] h15 (c205 h14) k
  rcases spl h with⟨h16,h⟩|⟨h16,h⟩
  have k:=oB 1 h16 k
  rcases spl h with⟨h17,h⟩|⟨h17,h⟩
  obtain rfl:=sj h
  exact fun j=>lF 0 [] (oB 0 h17 k)
  obtain⟨r18,h19,h⟩:=obind h
  have k:=oA 0 (ix41 (o:=.no) h12)<|oB 0 h17 k
  rcases spl h with⟨h20,h⟩|⟨h20,h⟩
  exact fun j=>lH 2 [] [] [] [3,6] (oD (dI r1.1)<|oK 1 [] h20 (c206 h19) k) (ih _ _ _ h)
  have k:=oA 1 (ix41 (o:=.no) h12)<|oK 1 [] h20 (c206 h19) k
  rcases spl h with⟨h21,h⟩|⟨h21,h⟩
  obtain rfl:=sj h
  exact fun j=>lF 0 [] (oB 1 h21 k)
  exact fun j=>lH 1 [] [] [] [3,6] (oD (dI r1.1)<|oB 1 h21 k) (ih _ _ _ h)
  exact fun j=>lH 1 [] [] [] [3,6] (oD (dI r1.1)<|oB 1 h16 k) (ih _ _ _ h)
  obtain rfl:=sj h
  exact fun j=>lF 0 [] (oB 1 h10 o0)
theorem c140{qq p0 r}(h:e140 qq p0=some r):K140 p0 r Ct:=by
 unfold e140 at h
 obtain⟨r1,h2,h⟩:=obind h
 have k:=oC 0 [] (c203 h2) o0
 rcases spl h with⟨h3,h⟩|⟨h3,h⟩
 obtain rfl:=sj h
 exact k140 (tF q140 0 [] (oB 3 h3 k))
 have k:=oB 3 h3 k
 rcases spl h with⟨h4,h⟩|⟨h4,h⟩
 obtain rfl:=sj h
 exact k140 (tF q140 0 [] (oB 1 h4 k))
 have k:=oB 1 h4 k
 rcases spl h with⟨h5,h⟩|⟨h5,h⟩
 obtain rfl:=sj h
 exact k140 (tF q140 0 [] (oB 1 h5 k))
 obtain⟨r6,h7,h⟩:=obind h
 have k:=oB 1 h5 k
 rcases spl h with⟨h8,h⟩|⟨h8,h⟩
 obtain rfl:=sj h
 exact k140 (tF q140 0 [] (oK 0 [] h8 (c204 h7) k))
 have k:=oK 0 [] h8 (c204 h7) k
 rcases spl h with⟨h9,h⟩|⟨h9,h⟩
 obtain rfl:=sj h
 exact k140 (tF q140 0 [] (oB 0 h9 k))
 exact k140 (tH q140 0 [] [] [] [3,6] (oD (dI r1.1)<|oB 0 h9 k) (l140Lcm _ _ _ _ h))
def e73Lcn:Nat->(List ByteArray)->Int->Option (Bool)
 |0,_,_=>none
 |qq+1,p0,v3=>
 if decide (v3<(List.length p0:Int))then
 gidx p0 v3>>=fun x2=>
 e139 qq p0 x2>>=fun r4=>
 if r4 != v3 then
 some false
 else
 e73Lcn qq p0 (w64 (v3+1))
 else
 some true
def e73(qq:Nat)(p0:List ByteArray):Option (Bool):=
 e73Lcn qq p0 0
def g73LcnE0(j:Nat->Value)(p0:List ByteArray)(v3:Int):=sp j 18 0 [(0,slv strC p0 .no),(3,ai v3)]
def g73LcnS0(p0:List ByteArray)(v3:Int):LSt:=⟨[],0,[],0,[]⟩
abbrev K73 (p0:List ByteArray) (r:Bool) (C:Cf):Prop:=C 73 [] [slv strC p0 .no] (ab r) [] 0
theorem q73:Qf 73 Tryz.f73:=⟨Tryz.func73,by kernel_rfl⟩
theorem k73{p0 r}(h:K73 p0 r Ci):K73 p0 r Ct:=⟨h,⟨⟨tv,dS _⟩,tv⟩,forall_nil,tv,forall_nil⟩
theorem l73Lcn:∀qq:Nat,(∀p0 v3 r,e73Lcn qq p0 v3=some r->(∀j,Dl Tryz.prog 0 (inn (inn (rgt (lft (rgt (bod Tryz.f73)))))) (g73LcnE0 j p0 v3) (g73LcnS0 p0 v3) (frameQ Tryz.prog 0 (FinQ Tryz.prog 0 Tryz.f73 (ab r) [] 0) [.blk 0,.seq (rgt (rgt (bod Tryz.f73)))]))):=by
 intro qq
 induction qq with
 |zero=>
  exact fun _ _ _ h=>nn h
 |succ qq ih=>
  intro p0 v3 r h
  rw[e73Lcn]at h
  rcases spl h with⟨h1,h⟩|⟨h1,h⟩
  obtain⟨x2,h3,h⟩:=obind h
  obtain⟨r4,h5,h⟩:=obind h
  have k:=oC 1 [] (c139 h5)<|oA 0 (ix141 (o:=.no) h3)<|oB 1 h1 o0
  rcases spl h with⟨h6,h⟩|⟨h6,h⟩
  obtain rfl:=sj h
  exact fun j=>lF 0 [] (oB 0 h6 k)
  exact fun j=>lH 1 [] [] [] [0,3] (oD (dS p0)<|oB 0 h6 k) (ih _ _ _ h)
  obtain rfl:=sj h
  exact fun j=>lF 0 [] (oB 1 h1 o0)
theorem c73{qq p0 r}(h:e73 qq p0=some r):K73 p0 r Ct:=by
 unfold e73 at h
 exact k73 (tH q73 0 [] [] [] [0,3] (oD (dS p0) o0) (l73Lcn _ _ _ _ h))
def kwT(s:ByteArray):Bool:=(s.toList==(⟨#[100,97,116,97]⟩:ByteArray).toList)||(s.toList==(⟨#[114,101,99,111,114,100]⟩:ByteArray).toList)||(s.toList==(⟨#[100,101,102]⟩:ByteArray).toList)||(s.toList==(⟨#[83,101,116]⟩:ByteArray).toList)
theorem ev_uKeyword(s:ByteArray):Evt (fun q=>e321 q s) (kwT s):=by
 simp only[e321]
 unfold kwT
 generalize (s.toList==(⟨#[100,97,116,97]⟩:ByteArray).toList)=a
 generalize (s.toList==(⟨#[114,101,99,111,114,100]⟩:ByteArray).toList)=b
 generalize (s.toList==(⟨#[100,101,102]⟩:ByteArray).toList)=c
 generalize (s.toList==(⟨#[83,101,116]⟩:ByteArray).toList)=d
 cases a
 ·cases b
  ·cases c
   ·cases d
    ·exact Evt.ret
    ·exact Evt.ret
   ·exact Evt.ret
  ·exact Evt.ret
 ·exact Evt.ret
theorem ev_rKeyword(s:ByteArray):Evt (fun q=>e204 q s) (kwT s):=by
 simp only[e204]
 unfold kwT
 generalize (s.toList==(⟨#[100,97,116,97]⟩:ByteArray).toList)=a
 generalize (s.toList==(⟨#[114,101,99,111,114,100]⟩:ByteArray).toList)=b
 generalize (s.toList==(⟨#[100,101,102]⟩:ByteArray).toList)=c
 generalize (s.toList==(⟨#[83,101,116]⟩:ByteArray).toList)=d
 cases a
 ·cases b
  ·cases c
   ·cases d
    ·exact Evt.ret
    ·exact Evt.ret
   ·exact Evt.ret
  ·exact Evt.ret
 ·exact Evt.ret
def innT(n:Int):Bool:=letT n||digT n||n==95||n==39
theorem ev_uinner(n:Int):Evt (fun q=>e322 q n) (innT n):=by
 simp only[e322]
 unfold innT
 refine(ev_uLetter n).bind ?_
 cases letT n with
 |true=>exact Evt.ifT rfl (Evt.ret.eq (by simp))
 |false=>
  refine Evt.ifF rfl ((ev_uDigit n).bind ?_)
  cases digT n with
  |true=>exact Evt.ifT rfl (Evt.ret.eq (by simp))
  |false=>
   refine Evt.ifF rfl ?_
   by_cases h:n=95
   ·exact Evt.ifT (by simpa using h) (Evt.ret.eq (by simp[h]))
   ·exact Evt.ifF (by simpa using h) (Evt.ret.eq (by simp[h]))
def sgnsT(L:List Int):Bool:=match L with
 | []=>false
 |x::r=>(letT x||x==95)&&r.all innT && !(x==95&&r.isEmpty)
def rgtT(s:ByteArray):Bool:=match txtT s with
 |some L=>decide (s.size≤40) && !kwT s&&sgnsT L
 |none=>false
theorem ev_nRightL(r1:List Int×Int×Int)(x:Int)(r0:List Int)(h1:r1.1=x::r0)(hl:r1.1.length≤65535):∀(r:List Int) (v:Nat),r1.1.drop v=r->Evt (fun q=>e280Law q r1 (v:Int)) (r.all innT&&(letT x||(x==95 && !r0.isEmpty)))
 | [],v,hd=>by
  refine Evt.succ ?_
  simp only[e280Law]
  refine Evt.ifF (drop_nil hd) (Evt.pure (a:=x) (by rw[h1];rfl) ((ev_uLetter x).bind ?_))
  cases letT x with
  |true=>exact Evt.ifT rfl (Evt.ret.eq (by simp))
  |false=>
   refine Evt.ifF rfl ?_
   by_cases h:x=95
   ·refine Evt.ifT (by simpa using h) (Evt.ret.eq ?_)
    rw[h1]
    cases r0 with
    |nil=>simp[h]
    |cons _ _=>simp[h];omega
   ·exact Evt.ifF (by simpa using h) (Evt.ret.eq (by simp[h]))
 |y::r,v,hd=>by
  have hlt:=drop_lt hd
  refine Evt.succ ?_
  simp only[e280Law]
  refine Evt.ifT (drop_dec hd) (Evt.pure (drop_idx hd) ((ev_uinner y).bind ?_))
  cases hy:innT y with
  |true=>
   refine Evt.ifT rfl ?_
   rw[w64_nat v (by omega)]
   exact(ev_nRightL r1 x r0 h1 hl r (v+1) (drop_next hd)).eq (by simp[hy])
  |false=>exact Evt.ifF rfl (Evt.ret.eq (by simp[hy]))
theorem let95:letT 95=false:=by kernel_rfl
theorem txt_len{s:ByteArray}{L:List Int}(h:txtT s=some L):bs s=L.flatMap putT:=by
 unfold txtT at h
 split at h
 ·exact sgs_put s.size (bs s) L (fun c hc=>bs_mem hc) (by rw[bs_len];omega) h
 ·cases h
theorem put_ne(n:Int):putT n≠[]:=fun h=>by
 have:=put_len n
 rw[h]at this
 unfold widT at this
 split at this<;>(try split at this)<;>(try split at this)<;>simp at this
theorem fm_len:∀(L:List Int),L.length≤(L.flatMap putT).length
 | []=>by simp
 |n::L=>by
  rw[List.flatMap_cons,List.length_append,List.length_cons]
  have:=fm_len L
  have:0<(putT n).length:=List.length_pos_iff.2 (put_ne n)
  omega
theorem ev_uRightN(s:ByteArray):Evt (fun q=>e280 q s) (rgtT s):=by
 simp only[e280]
 unfold rgtT
 rcases ev_uAll s with⟨L,h1,h2⟩|⟨h1,r,h2,h3⟩
 ·rw[h1]
  dsimp only
  refine h2.bind (Evt.ifF rfl ?_)
  have hb:=txt_len h1
  cases L with
  |nil=>exact Evt.ifT rfl (Evt.ret.eq (by simp[sgnsT]))
  |cons x r=>
   refine Evt.ifF (by simp;omega) ?_
   by_cases h40:s.size≤40
   ·refine Evt.ifF (decide_eq_false (by omega)) ((ev_uKeyword s).bind ?_)
    rw[decide_eq_true h40]
    cases kwT s with
    |true=>exact Evt.ifT rfl (Evt.ret.eq (by simp))
    |false=>
     refine Evt.ifF rfl ?_
     have hlen:(x::r).length≤65535:=by
      have h1:=bs_len s
      have h2:=fm_len (x::r)
      rw[hb]at h1
      omega
     refine(ev_nRightL (x::r,(s.size:Int),0) x r rfl hlen (x::r) 0 rfl).eq ?_
     simp only[sgnsT,List.all_cons,innT,Bool.true_and,Bool.not_false]
     by_cases hx:x=95
     ·subst hx;rw[let95];cases r<;>simp
     ·have e:(x==95)=false:=by simpa using hx
      rw[e]
      cases letT x<;>simp
   ·exact Evt.ifT (decide_eq_true (by omega)) (Evt.ret.eq (by simp[h40]))
 ·rw[h1];exact h2.bind (Evt.ifT (by simpa using h3) Evt.ret)
theorem ev_rRightL(r1:List Int×Int×Int)(hl:r1.1.length≤65535):∀(r:List Int) (v:Nat),1≤v->r1.1.drop v=r->Evt (fun q=>e140Lcm q r1 (v:Int)) (r.all innT)
 | [],v,hv,hd=>by
  refine Evt.succ ?_
  simp only[e140Lcm]
  exact Evt.ifF (drop_nil hd) Evt.ret
 |y::r,v,hv,hd=>by
  have hlt:=drop_lt hd
  have next:=ev_rRightL r1 hl r (v+1) (by omega) (drop_next hd)
  refine Evt.succ ?_
  simp only[e140Lcm]
  refine Evt.ifT (drop_dec hd) (Evt.pure (drop_idx hd) ((ev_rLetter y).bind ?_))
  rw[w64_nat v (by omega)]
  have ha:(y::r).all innT=(innT y&&r.all innT):=rfl
  rw[ha]
  generalize r.all innT=R at next ⊢
  unfold innT
  cases letT y with
  |true=>exact Evt.ifT rfl (next.eq (by simp))
  |false=>
   refine Evt.ifF rfl ?_
   by_cases h:y=95
   ·exact Evt.ifF (by simp[h]) (next.eq (by simp[h]))
   ·refine Evt.ifT (by simpa using h) (Evt.ifF (beq_eq_false_iff_ne.2 (by omega)) ((ev_rDigit y).bind ?_))
    cases digT y with
    |true=>exact Evt.ifT rfl (next.eq (by simp))
    |false=>
     refine Evt.ifF rfl ?_
     by_cases h2:y=39
     ·exact Evt.ifF (by simp[h2]) (next.eq (by simp[h2]))
     ·exact Evt.ifT (by simpa using h2) (Evt.ret.eq (by simp[h,h2]))
theorem bs_us:bs ⟨#[95]⟩=[95]:=by rfl
theorem txt_us{s:ByteArray}{L:List Int}(h:txtT s=some L):(s.toList==(⟨#[95]⟩:ByteArray).toList)=decide (L=[95]):=by
 rw[bs_eq,bs_us]
 have hb:=txt_len h
 have e95:putT 95=[95]:=by unfold putT;rw[if_pos (by omega)]
 by_cases hL:L=[95]
 ·subst hL
  rw[decide_eq_true rfl]
  refine decide_eq_true ?_
  rw[hb];simp[e95]
 ·rw[decide_eq_false hL]
  refine decide_eq_false fun hs=>hL ?_
  have hz:s.size=1:=by rw[←bs_len,hs];rfl
  have h2:txtT s=some [95]:=by
   unfold txtT
   rw[if_pos (by omega),hz,hs]
   rfl
  rw[h]at h2
  exact Option.some.inj h2
theorem ev_rRightN(s:ByteArray):Evt (fun q=>e140 q s) (rgtT s):=by
 simp only[e140]
 unfold rgtT
 rcases ev_rAll s with⟨L,h1,h2⟩|⟨h1,r,h2,h3⟩
 ·rw[h1]
  dsimp only
  refine h2.bind (Evt.ifF rfl ?_)
  have hb:=txt_len h1
  have hbl:=bs_len s
  cases L with
  |nil=>
   have hz:s.size=0:=by rw[←hbl,hb];rfl
   exact Evt.ifT (by rw[hz];rfl) (Evt.ret.eq (by simp[sgnsT]))
  |cons x r=>
   have hlen:=fm_len (x::r)
   rw[←hb,hbl]at hlen
   have hpos:0<s.size:=by simp at hlen;omega
   refine Evt.ifF (beq_eq_false_iff_ne.2 (by omega)) ?_
   by_cases h40:s.size≤40
   ·refine Evt.ifF (decide_eq_false (by omega)) ((ev_rKeyword s).bind ?_)
    rw[decide_eq_true h40]
    cases kwT s with
    |true=>exact Evt.ifT rfl (Evt.ret.eq (by simp))
    |false=>
     refine Evt.ifF rfl ?_
     rw[txt_us h1]
     by_cases hu:x::r=[95]
     ·refine Evt.ifT (decide_eq_true hu) (Evt.ret.eq ?_)
      obtain⟨rfl,rfl⟩:x=95∧r=[]:=by simpa using hu
      simp[sgnsT]
     ·refine Evt.ifF (decide_eq_false hu) (Evt.succ ?_)
      have next:=ev_rRightL (x::r,(s.size:Int),0) (by show (x::r).length≤65535;omega) r 1 (by omega) rfl
      simp only[e140Lcm]
      refine Evt.ifT (decide_eq_true (by show (0:Int)<((r.length+1:Nat):Int);omega)) (Evt.pure (a:=x) rfl ((ev_rLetter x).bind ?_))
      have e1:w64 (0+1)=((1:Nat):Int):=by rfl
      rw[e1]
      have hq:(x==95&&r.isEmpty)=false:=by
       by_cases hx:x=95
       ·cases r with
        |nil=>exact absurd (by rw[hx]) hu
        |cons _ _=>simp
       ·simp[hx]
      simp only[sgnsT,hq]
      cases letT x with
      |true=>exact Evt.ifT rfl (next.eq (by simp))
      |false=>
       refine Evt.ifF rfl ?_
       by_cases hx:x=95
       ·exact Evt.ifF (by simp[hx]) (next.eq (by simp[hx]))
       ·exact Evt.ifT (by simpa using hx) (Evt.ifT rfl (Evt.ret.eq (by simp[hx])))
   ·exact Evt.ifT (decide_eq_true (by omega)) (Evt.ret.eq (by simp[h40]))
 ·rw[h1];exact h2.bind (Evt.ifT (by simpa using h3) Evt.ret)
theorem ev_refName{N:ByteArray->Bool}(hN:NamesBy N)(s:ByteArray):Evt (fun q=>e140 q s) (N s):=(ev_rRightN s).eq ((ev_uRightN s).det (hN s))
theorem bs_inj{a b:ByteArray}:bs a=bs b↔a=b:=by
 constructor
 ·intro h
  have:=bs_eq a b
  rw[decide_eq_true h]at this
  have h2:a.toList=b.toList:=by simpa using this
  rw[baList,baList]at h2
  cases a;cases b
  simp only[ByteArray.mk.injEq]
  exact Array.toList_inj.1 h2
 ·rintro rfl;rfl
theorem ba_beq(a b:ByteArray):(a==b)=decide (a=b):=by
 cases a with
 |mk x=>
 cases b with
 |mk y=>
 show (x==y)=_
 by_cases h:x=y
 ·subst h;simp
 ·rw[decide_eq_false (fun e=>h (ByteArray.mk.inj e))]
  simpa using h
theorem mget_set(m:List (ByteArray×Int))(k y:ByteArray)(z:Int):mget (mset m k z) y=if y=k then z else mget m y:=by
 induction m with
 |nil=>simp only[mset,mget,ba_beq,decide_eq_true_eq]
 |cons p m ih=>
  rw[mset,ba_beq]
  by_cases e1:k=p.1
  ·rw[if_pos (decide_eq_true e1),mget,mget,ba_beq,ba_beq]
   simp only[decide_eq_true_eq]
   by_cases e:y=k
   ·rw[if_pos e,if_pos e]
   ·rw[if_neg e,if_neg e,if_neg (fun h:y=p.1=>e (h.trans e1.symm))]
  ·rw[if_neg (by simpa using e1),mget,mget,ih,ba_beq]
   simp only[decide_eq_true_eq]
   by_cases e:y=p.1
   ·rw[if_pos e,if_pos e,if_neg (fun h:y=k=>e1 (h.symm.trans e))]
   ·rw[if_neg e,if_neg e]
open Classical in
theorem ev_uDistL(l:List ByteArray)(hl:l.length≤65535):∀(r:List ByteArray) (v:Nat) (m:List (ByteArray×Int)),l.drop v=r->(∀x,0≤mget m x∧mget m x≤v)->(∀x,0<mget m x↔x∈l.take v)->Evt (fun q=>e222Lat q l (v:Int) m) (decide (∀i,v≤i->(h:i<l.length)->l[i] ∉ l.take i))
 | [],v,m,hd,hm0,hm=>by
  refine Evt.succ ?_
  simp only[e222Lat]
  refine Evt.ifF (drop_nil hd) (Evt.ret.eq (decide_eq_true fun i hi h=>?_).symm)
  have:=List.drop_eq_nil_iff.1 hd
  omega
 |x::r,v,m,hd,hm0,hm=>by
  have hlt:=drop_lt hd
  have hx:l[v]=x:=by
   have:=drop_idx hd
   unfold gidx at this
   rw[if_pos (by omega),Int.toNat_natCast,List.getElem?_eq_getElem hlt]at this
   exact Option.some.inj this
  refine Evt.succ ?_
  simp only[e222Lat]
  refine Evt.ifT (drop_dec hd) (Evt.pure (drop_idx hd) ?_)
  by_cases h:0<mget m x
  ·refine Evt.ifT (decide_eq_true h) (Evt.ret.eq (decide_eq_false fun hf=>?_).symm)
   exact hf v (Nat.le_refl _) hlt (by rw[hx];exact(hm x).1 h)
  ·refine Evt.ifF (decide_eq_false h) ?_
   have hz:mget m x=0:=by have:=(hm0 x).1;omega
   rw[hz,w64_nat v (by omega),show w64 (0+1)=1 by rfl]
   have ht:l.take (v+1)=l.take v++[x]:=by rw[List.take_succ_eq_append_getElem hlt,hx]
   refine(ev_uDistL l hl r (v+1) _ (drop_next hd) (fun y=>?_) fun y=>?_).eq ?_
   ·rw[mget_set];have:=hm0 y;split<;>omega
   ·rw[mget_set,ht,List.mem_append,List.mem_singleton]
    by_cases e:y=x
    ·rw[if_pos e];simp[e]
    ·rw[if_neg e];simp[e,hm y]
   ·refine decide_eq_decide.2 ⟨fun hf i hi hil=>?_,fun hf i hi hil=>hf i (by omega) hil⟩
    by_cases e:i=v
    ·subst e;rw[hx];exact fun hmem=>h ((hm x).2 hmem)
    ·exact hf i (by omega) hil
theorem ev_rPlaceL(l:List ByteArray)(x:ByteArray)(hl:l.length≤65535):∀(r:List ByteArray) (v:Nat) (a:Int),l.drop v=r->∃p,Evt (fun q=>e139Lcl q l x a (v:Int)) p∧((p=a∧x ∉ r)∨∃i:Nat,p=(i:Int)∧v≤i∧∃h:i<l.length,l[i]=x∧∀j,i<j->(hj:j<l.length)->l[j]≠x)
 | [],v,a,hd=>⟨a,by
   refine Evt.succ ?_
   simp only[e139Lcl]
   exact Evt.ifF (drop_nil hd) Evt.ret,.inl ⟨rfl,by simp⟩⟩
 |y::r,v,a,hd=>by
  have hlt:=drop_lt hd
  have hx:l[v]=y:=by
   have:=drop_idx hd
   unfold gidx at this
   rw[if_pos (by omega),Int.toNat_natCast,List.getElem?_eq_getElem hlt]at this
   exact Option.some.inj this
  have hmem:∀j,v<j->(hj:j<l.length)->l[j]∈r:=fun j h1 h2=>by
   have h3:=drop_next hd
   rw[←h3]
   exact List.mem_drop_iff_getElem.2 ⟨j-(v+1),by omega,by congr 1;omega⟩
  by_cases e:y=x
  ·obtain⟨p,h1,h2⟩:=ev_rPlaceL l x hl r (v+1) (v:Int) (drop_next hd)
   refine⟨p,Evt.succ ?_,.inr ?_⟩
   ·simp only[e139Lcl]
    refine Evt.ifT (drop_dec hd) (Evt.pure (drop_idx hd) (Evt.ifT (by rw[e];simp) ?_))
    rw[w64_nat v (by omega)];exact h1
   ·rcases h2 with⟨h3,h4⟩|⟨i,h3,h4,h5,h6,h7⟩
    ·exact⟨v,h3,Nat.le_refl _,hlt,by rw[hx,e],fun j h8 h9 h10=>h4 (by rw[←h10];exact hmem j h8 h9)⟩
    ·exact⟨i,h3,by omega,h5,h6,h7⟩
  ·obtain⟨p,h1,h2⟩:=ev_rPlaceL l x hl r (v+1) a (drop_next hd)
   refine⟨p,Evt.succ ?_,?_⟩
   ·simp only[e139Lcl]
    refine Evt.ifT (drop_dec hd) (Evt.pure (drop_idx hd) (Evt.ifF ?_ ?_))
    ·rw[bs_eq];exact decide_eq_false fun h=>e (bs_inj.1 h)
    ·rw[w64_nat v (by omega)];exact h1
   ·rcases h2 with⟨h3,h4⟩|⟨i,h3,h4,h5,h6,h7⟩
    ·exact .inl ⟨h3,fun hm=>(List.mem_cons.1 hm).elim (fun h=>e h.symm) h4⟩
    ·exact .inr ⟨i,h3,by omega,h5,h6,h7⟩
def DistinctN(l:List ByteArray):Prop:=∀i,(h:i<l.length)->l[i] ∉ l.take i
open Classical in
theorem ev_uDist(l:List ByteArray)(hl:l.length≤65535):∃d,Evt (fun q=>e222 q l) d∧(d=true↔DistinctN l):=by
 refine⟨_,(by simp only[e222];exact ev_uDistL l hl l 0 [] rfl (fun x=>by rw[mget];omega) fun x=>by rw[mget];simp),?_⟩
 rw[decide_eq_true_eq]
 exact⟨fun h i hi=>h i (Nat.zero_le _) hi,fun h i _ hi=>h i hi⟩
theorem ev_rDist(l:List ByteArray)(hl:l.length≤65535):∃d,Evt (fun q=>e73 q l) d∧(d=true↔DistinctN l):=by
 simp only[e73]
 have key:∀(r:List ByteArray) (v:Nat),l.drop v=r->∃d,Evt (fun q=>e73Lcn q l (v:Int)) d∧(d=true ↔ ∀i,v≤i->(h:i<l.length)->∀j,i<j->(hj:j<l.length)->l[j]≠l[i]):=by
  intro r
  induction r with
  |nil=>
   intro v hd
   refine⟨true,Evt.succ ?_,⟨fun _ i hi h=>?_,fun _=>rfl⟩⟩
   ·simp only[e73Lcn]
    exact Evt.ifF (drop_nil hd) Evt.ret
   ·have:=List.drop_eq_nil_iff.1 hd;omega
  |cons x r ih=>
   intro v hd
   have hlt:=drop_lt hd
   have hx:l[v]=x:=by
    have:=drop_idx hd
    unfold gidx at this
    rw[if_pos (by omega),Int.toNat_natCast,List.getElem?_eq_getElem hlt]at this
    exact Option.some.inj this
   obtain⟨p,h1,h2⟩:=ev_rPlaceL l x hl l 0 (-1) rfl
   have hP:Evt (fun q=>e139 q l x) p:=by simp only[e139];exact h1
   obtain⟨i,hp,-,hi,hix,hlast⟩:∃i:Nat,p=(i:Int)∧0≤i∧∃h:i<l.length,l[i]=x∧∀j,i<j->(hj:j<l.length)->l[j]≠x:=by
    rcases h2 with⟨-,h4⟩|h
    ·exact absurd (by rw[←hx];exact List.getElem_mem hlt) h4
    ·exact h
   by_cases e:i=v
   ·obtain⟨d,g1,g2⟩:=ih (v+1) (drop_next hd)
    refine⟨d,Evt.succ ?_,g2.trans ⟨fun hf j hj hjl k hk hkl=>?_,fun hf j hj hjl=>hf j (by omega) hjl⟩⟩
    ·simp only[e73Lcn]
     refine Evt.ifT (drop_dec hd) (Evt.pure (drop_idx hd) (hP.bind (Evt.ifF (by rw[hp,e];simp) ?_)))
     rw[w64_nat v (by omega)];exact g1
    ·by_cases ej:j=v
     ·subst ej;rw[hx];exact hlast k (by omega) hkl
     ·exact hf j (by omega) hjl k hk hkl
   ·refine⟨false,Evt.succ ?_,⟨fun h=>(by cases h),fun hf=>?_⟩⟩
    ·simp only[e73Lcn]
     exact Evt.ifT (drop_dec hd) (Evt.pure (drop_idx hd) (hP.bind (Evt.ifT (by rw[hp];simp;omega) Evt.ret)))
    ·exfalso
     rcases Nat.lt_or_gt_of_ne e with h|h
     ·exact hlast v h hlt hx
     ·exact hf v (Nat.le_refl _) hlt i h hi (by rw[hix,hx])
 obtain⟨d,h1,h2⟩:=key l 0 rfl
 refine⟨d,h1,h2.trans ⟨fun h i hi hm=>?_,fun h i _ hi j hij hj e=>?_⟩⟩
 ·obtain⟨j,hj,hje⟩:=List.mem_take_iff_getElem.1 hm
  exact h j (Nat.zero_le _) (by omega) i (by omega) hi hje.symm
 ·exact h j hj (by rw[e];exact List.mem_take_iff_getElem.2 ⟨i,by omega,rfl⟩)
theorem ev_refDist{l:List ByteArray}(hl:l.length≤65535){d:Bool}(h:Evt (fun q=>e222 q l) d):Evt (fun q=>e73 q l) d:=by
 obtain⟨a,h1,h2⟩:=ev_uDist l hl
 obtain⟨b,h3,h4⟩:=ev_rDist l hl
 have:=h1.det h
 subst this
 refine h3.eq ?_
 rw[Bool.eq_iff_iff];exact h4.trans h2.symm
mutual
def e70:Nat->Tm->Option (Bool)
 |0,_=>none
 |qq+1,p0=>
 if p0.k==1 then
 if (List.length p0.sub:Int) != 0 then
 some false
 else
 if decide (p0.n<0)then
 some false
 else
 if decide (p0.n>1048576)then
 some false
 else
 if p0.k==7 then
 gidx p0.sub 0>>=fun x6=>
 if x6.k != 2 then
 some false
 else
 e70Lco qq p0 0 0
 else
 e70Lco qq p0 0 0
 else
 if p0.k==6 then
 if (List.length p0.sub:Int) != 0 then
 some false
 else
 if decide (p0.n<0)then
 some false
 else
 if decide (p0.n>1048576)then
 some false
 else
 if p0.k==7 then
 gidx p0.sub 0>>=fun x14=>
 if x14.k != 2 then
 some false
 else
 e70Lco qq p0 0 0
 else
 e70Lco qq p0 0 0
 else
 if p0.k==8 then
 if (List.length p0.sub:Int) != 0 then
 some false
 else
 if decide (p0.n<0)then
 some false
 else
 if decide (p0.n>1048576)then
 some false
 else
 if p0.k==7 then
 gidx p0.sub 0>>=fun x22=>
 if x22.k != 2 then
 some false
 else
 e70Lco qq p0 0 0
 else
 e70Lco qq p0 0 0
 else
 if p0.k==2 then
 if (List.length p0.sub:Int) != 0 then
 some false
 else
 if decide (p0.n<0)then
 some false
 else
 if decide (p0.n>7)then
 some false
 else
 if p0.k==7 then
 gidx p0.sub 0>>=fun x30=>
 if x30.k != 2 then
 some false
 else
 e70Lco qq p0 0 0
 else
 e70Lco qq p0 0 0
 else
 if p0.k==3 then
 if (List.length p0.sub:Int) != 2 then
 some false
 else
 if decide (p0.n<0)then
 some false
 else
 if decide (p0.n>0)then
 some false
 else
 if p0.k==7 then
 gidx p0.sub 0>>=fun x38=>
 if x38.k != 2 then
 some false
 else
 e70Lco qq p0 2 0
 else
 e70Lco qq p0 2 0
 else
 if p0.k==4 then
 if (List.length p0.sub:Int) != 2 then
 some false
 else
 if decide (p0.n<0)then
 some false
 else
 if decide (p0.n>0)then
 some false
 else
 if p0.k==7 then
 gidx p0.sub 0>>=fun x46=>
 if x46.k != 2 then
 some false
 else
 e70Lco qq p0 2 0
 else
 e70Lco qq p0 2 0
 else
 if p0.k==5 then
 if (List.length p0.sub:Int) != 2 then
 some false
 else
 if decide (p0.n<0)then
 some false
 else
 if decide (p0.n>0)then
 some false
 else
 if p0.k==7 then
 gidx p0.sub 0>>=fun x54=>
 if x54.k != 2 then
 some false
 else
 e70Lco qq p0 2 0
 else
 e70Lco qq p0 2 0
 else
 if p0.k==7 then
 if (List.length p0.sub:Int) != 1 then
 some false
 else
 if decide (p0.n<0)then
 some false
 else
 if decide (p0.n>1048576)then
 some false
 else
 gidx p0.sub 0>>=fun x61=>
 if x61.k != 2 then
 some false
 else
 e70Lco qq p0 1 0
 else
 some false
def e70Lco:Nat->Tm->Int->Int->Option (Bool)
 |0,_,_,_=>none
 |qq+1,p0,v3,v5=>
 if decide (v5<v3)then
 gidx p0.sub v5>>=fun x10=>
 e70 qq x10>>=fun r12=>
 if r12 then
 e70Lco qq p0 v3 (w64 (v5+1))
 else
 some false
 else
 some true
end
def g70LcoE0(j:Nat->Value)(p0:Tm)(v3 v5:Int):=sp j 61 0 [(1,.mp 0 0),(3,ai v3),(5,ai v5)]
def g70LcoS0(p0:Tm)(v3 v5:Int):LSt:=⟨[(0,.cells [ai p0.k,ai p0.n,slv tmCells p0.sub .no])],1,[],0,[]⟩
abbrev K70 (p0:Tm) (r:Bool) (C:Cf):Prop:=C 70 [] [tmA p0] (ab r) [] 0
theorem q70:Qf 70 Tryz.f70:=⟨Tryz.func70,by kernel_rfl⟩
theorem k70{p0 r}(h:K70 p0 r Ci):K70 p0 r Ct:=⟨h,⟨⟨tv,tv,⟨tv,dT _⟩,tv⟩,tv⟩,forall_nil,tv,forall_nil⟩
theorem a70_70Lco:∀qq:Nat,(∀p0 r,e70 qq p0=some r->K70 p0 r Ct)∧(∀p0 v3 v5 r,e70Lco qq p0 v3 v5=some r->(∀j,Dl Tryz.prog 0 (inn (inn (rgt (lft (rgt (rgt (rgt (rgt (rgt (bod Tryz.f70)))))))))) (g70LcoE0 j p0 v3 v5) (g70LcoS0 p0 v3 v5) (frameQ Tryz.prog 0 (FinQ Tryz.prog 0 Tryz.f70 (ab r) [] 0) [.blk 1,.seq (rgt (rgt (rgt (rgt (rgt (rgt (bod Tryz.f70)))))))]))):=by
 intro qq
 induction qq with
 |zero=>
  exact⟨fun _ _ h=>nn h,fun _ _ _ _ h=>nn h⟩
 |succ qq ih=>
  obtain⟨ih70,ih70Lco⟩:=ih
  refine⟨?_,?_⟩
  intro p0 r h
  rw[e70]at h
  rcases spl h with⟨h1,h⟩|⟨h1,h⟩
  have k:=oB 1 h1 o0
  rcases spl h with⟨h2,h⟩|⟨h2,h⟩
  obtain rfl:=sj h
  exact k70 (tF q70 0 [] (oB 2 h2 k))
  have k:=oB 2 h2 k
  rcases spl h with⟨h3,h⟩|⟨h3,h⟩
  obtain rfl:=sj h
  exact k70 (tF q70 0 [] (oB 1 h3 k))
  have k:=oB 1 h3 k
  rcases spl h with⟨h4,h⟩|⟨h4,h⟩
  obtain rfl:=sj h
  exact k70 (tF q70 0 [] (oB 1 h4 k))
  have k:=oB 1 h4 k
  rcases spl h with⟨h5,h⟩|⟨h5,h⟩
  obtain⟨x6,h7,h⟩:=obind h
  have k:=oA 1 (ix23 (o:=.no) h7)<|oB 1 h5 k
  rcases spl h with⟨h8,h⟩|⟨h8,h⟩
  obtain rfl:=sj h
  exact k70 (tF q70 0 [] (oB 1 h8 k))
  exact k70 (tH q70 0 [] [0] [] [1,3,5] (oD (dT p0.sub)<|oB 1 h8 k) (ih70Lco _ _ _ _ h))
  exact k70 (tH q70 0 [] [0] [] [1,3,5] (oD (dT p0.sub)<|oB 1 h5 k) (ih70Lco _ _ _ _ h))
  have k:=oB 1 h1 o0
  rcases spl h with⟨h9,h⟩|⟨h9,h⟩
  have k:=oB 0 h9 k
  rcases spl h with⟨h10,h⟩|⟨h10,h⟩
  obtain rfl:=sj h
  exact k70 (tF q70 0 [] (oB 2 h10 k))
  have k:=oB 2 h10 k
  rcases spl h with⟨h11,h⟩|⟨h11,h⟩
  obtain rfl:=sj h
  exact k70 (tF q70 0 [] (oB 1 h11 k))
  have k:=oB 1 h11 k
  rcases spl h with⟨h12,h⟩|⟨h12,h⟩
  obtain rfl:=sj h
  exact k70 (tF q70 0 [] (oB 1 h12 k))
  have k:=oB 1 h12 k
  rcases spl h with⟨h13,h⟩|⟨h13,h⟩
  obtain⟨x14,h15,h⟩:=obind h
  have k:=oA 1 (ix23 (o:=.no) h15)<|oB 1 h13 k
  rcases spl h with⟨h16,h⟩|⟨h16,h⟩
  obtain rfl:=sj h
  exact k70 (tF q70 0 [] (oB 1 h16 k))
  exact k70 (tH q70 0 [] [0] [] [1,3,5] (oD (dT p0.sub)<|oB 1 h16 k) (ih70Lco _ _ _ _ h))
  exact k70 (tH q70 0 [] [0] [] [1,3,5] (oD (dT p0.sub)<|oB 1 h13 k) (ih70Lco _ _ _ _ h))
  have k:=oB 0 h9 k
  rcases spl h with⟨h17,h⟩|⟨h17,h⟩
  have k:=oB 0 h17 k
  rcases spl h with⟨h18,h⟩|⟨h18,h⟩
  obtain rfl:=sj h
  exact k70 (tF q70 0 [] (oB 2 h18 k))
  have k:=oB 2 h18 k
  rcases spl h with⟨h19,h⟩|⟨h19,h⟩
  obtain rfl:=sj h
  exact k70 (tF q70 0 [] (oB 1 h19 k))
  have k:=oB 1 h19 k
  rcases spl h with⟨h20,h⟩|⟨h20,h⟩
  obtain rfl:=sj h
  exact k70 (tF q70 0 [] (oB 1 h20 k))
  have k:=oB 1 h20 k
  rcases spl h with⟨h21,h⟩|⟨h21,h⟩
  obtain⟨x22,h23,h⟩:=obind h
  have k:=oA 1 (ix23 (o:=.no) h23)<|oB 1 h21 k
  rcases spl h with⟨h24,h⟩|⟨h24,h⟩
  obtain rfl:=sj h
  exact k70 (tF q70 0 [] (oB 1 h24 k))
  exact k70 (tH q70 0 [] [0] [] [1,3,5] (oD (dT p0.sub)<|oB 1 h24 k) (ih70Lco _ _ _ _ h))
  exact k70 (tH q70 0 [] [0] [] [1,3,5] (oD (dT p0.sub)<|oB 1 h21 k) (ih70Lco _ _ _ _ h))
  have k:=oB 0 h17 k
  rcases spl h with⟨h25,h⟩|⟨h25,h⟩
  have k:=oB 0 h25 k
  rcases spl h with⟨h26,h⟩|⟨h26,h⟩
  obtain rfl:=sj h
  exact k70 (tF q70 0 [] (oB 2 h26 k))
  have k:=oB 2 h26 k
  rcases spl h with⟨h27,h⟩|⟨h27,h⟩
  obtain rfl:=sj h
  exact k70 (tF q70 0 [] (oB 1 h27 k))
  have k:=oB 1 h27 k
  rcases spl h with⟨h28,h⟩|⟨h28,h⟩
  obtain rfl:=sj h
  exact k70 (tF q70 0 [] (oB 1 h28 k))
  have k:=oB 1 h28 k
  rcases spl h with⟨h29,h⟩|⟨h29,h⟩
  obtain⟨x30,h31,h⟩:=obind h
  have k:=oA 1 (ix23 (o:=.no) h31)<|oB 1 h29 k
  rcases spl h with⟨h32,h⟩|⟨h32,h⟩
  obtain rfl:=sj h
  exact k70 (tF q70 0 [] (oB 1 h32 k))
  exact k70 (tH q70 0 [] [0] [] [1,3,5] (oD (dT p0.sub)<|oB 1 h32 k) (ih70Lco _ _ _ _ h))
  exact k70 (tH q70 0 [] [0] [] [1,3,5] (oD (dT p0.sub)<|oB 1 h29 k) (ih70Lco _ _ _ _ h))
  have k:=oB 0 h25 k
  rcases spl h with⟨h33,h⟩|⟨h33,h⟩
  have k:=oB 0 h33 k
  rcases spl h with⟨h34,h⟩|⟨h34,h⟩
  obtain rfl:=sj h
  exact k70 (tF q70 0 [] (oB 2 h34 k))
  have k:=oB 2 h34 k
  rcases spl h with⟨h35,h⟩|⟨h35,h⟩
  obtain rfl:=sj h
  exact k70 (tF q70 0 [] (oB 1 h35 k))
  have k:=oB 1 h35 k
  rcases spl h with⟨h36,h⟩|⟨h36,h⟩
  obtain rfl:=sj h
  exact k70 (tF q70 0 [] (oB 1 h36 k))
  have k:=oB 1 h36 k
  rcases spl h with⟨h37,h⟩|⟨h37,h⟩
  obtain⟨x38,h39,h⟩:=obind h
  have k:=oA 1 (ix23 (o:=.no) h39)<|oB 1 h37 k
  rcases spl h with⟨h40,h⟩|⟨h40,h⟩
  obtain rfl:=sj h
  exact k70 (tF q70 0 [] (oB 1 h40 k))
  exact k70 (tH q70 0 [] [0] [] [1,3,5] (oD (dT p0.sub)<|oB 1 h40 k) (ih70Lco _ _ _ _ h))
  exact k70 (tH q70 0 [] [0] [] [1,3,5] (oD (dT p0.sub)<|oB 1 h37 k) (ih70Lco _ _ _ _ h))
  have k:=oB 0 h33 k
  rcases spl h with⟨h41,h⟩|⟨h41,h⟩
  have k:=oB 0 h41 k
  rcases spl h with⟨h42,h⟩|⟨h42,h⟩
  obtain rfl:=sj h
  exact k70 (tF q70 0 [] (oB 2 h42 k))
  have k:=oB 2 h42 k
  rcases spl h with⟨h43,h⟩|⟨h43,h⟩
  obtain rfl:=sj h
  exact k70 (tF q70 0 [] (oB 1 h43 k))
  have k:=oB 1 h43 k
  rcases spl h with⟨h44,h⟩|⟨h44,h⟩
  obtain rfl:=sj h
  exact k70 (tF q70 0 [] (oB 1 h44 k))
  have k:=oB 1 h44 k
  rcases spl h with⟨h45,h⟩|⟨h45,h⟩
  obtain⟨x46,h47,h⟩:=obind h
  have k:=oA 1 (ix23 (o:=.no) h47)<|oB 1 h45 k
  rcases spl h with⟨h48,h⟩|⟨h48,h⟩
  obtain rfl:=sj h
  exact k70 (tF q70 0 [] (oB 1 h48 k))
  exact k70 (tH q70 0 [] [0] [] [1,3,5] (oD (dT p0.sub)<|oB 1 h48 k) (ih70Lco _ _ _ _ h))
  exact k70 (tH q70 0 [] [0] [] [1,3,5] (oD (dT p0.sub)<|oB 1 h45 k) (ih70Lco _ _ _ _ h))
  have k:=oB 0 h41 k
  rcases spl h with⟨h49,h⟩|⟨h49,h⟩
  have k:=oB 0 h49 k
  rcases spl h with⟨h50,h⟩|⟨h50,h⟩
  obtain rfl:=sj h
  exact k70 (tF q70 0 [] (oB 2 h50 k))
  have k:=oB 2 h50 k
  rcases spl h with⟨h51,h⟩|⟨h51,h⟩
  obtain rfl:=sj h
  exact k70 (tF q70 0 [] (oB 1 h51 k))
  have k:=oB 1 h51 k
  rcases spl h with⟨h52,h⟩|⟨h52,h⟩
  obtain rfl:=sj h
  exact k70 (tF q70 0 [] (oB 1 h52 k))
  have k:=oB 1 h52 k
  rcases spl h with⟨h53,h⟩|⟨h53,h⟩
  obtain⟨x54,h55,h⟩:=obind h
  have k:=oA 1 (ix23 (o:=.no) h55)<|oB 1 h53 k
  rcases spl h with⟨h56,h⟩|⟨h56,h⟩
  obtain rfl:=sj h
  exact k70 (tF q70 0 [] (oB 1 h56 k))
  exact k70 (tH q70 0 [] [0] [] [1,3,5] (oD (dT p0.sub)<|oB 1 h56 k) (ih70Lco _ _ _ _ h))
  exact k70 (tH q70 0 [] [0] [] [1,3,5] (oD (dT p0.sub)<|oB 1 h53 k) (ih70Lco _ _ _ _ h))
  have k:=oB 0 h49 k
  rcases spl h with⟨h57,h⟩|⟨h57,h⟩
  have k:=oB 0 h57 k
  rcases spl h with⟨h58,h⟩|⟨h58,h⟩
  obtain rfl:=sj h
  exact k70 (tF q70 0 [] (oB 2 h58 k))
  have k:=oB 2 h58 k
  rcases spl h with⟨h59,h⟩|⟨h59,h⟩
  obtain rfl:=sj h
  exact k70 (tF q70 0 [] (oB 1 h59 k))
  have k:=oB 1 h59 k
  rcases spl h with⟨h60,h⟩|⟨h60,h⟩
  obtain rfl:=sj h
  exact k70 (tF q70 0 [] (oB 1 h60 k))
  obtain⟨x61,h62,h⟩:=obind h
  have k:=oA 1 (ix23 (o:=.no) h62)<|oB 1 h57<|oB 1 h60 k
  rcases spl h with⟨h63,h⟩|⟨h63,h⟩
  obtain rfl:=sj h
  exact k70 (tF q70 0 [] (oB 1 h63 k))
  exact k70 (tH q70 0 [] [0] [] [1,3,5] (oD (dT p0.sub)<|oB 1 h63 k) (ih70Lco _ _ _ _ h))
  obtain rfl:=sj h
  exact k70 (tF q70 0 [] (oB 0 h57 k))
  intro p0 v3 v5 r h
  rw[e70Lco]at h
  rcases spl h with⟨h9,h⟩|⟨h9,h⟩
  obtain⟨x10,h11,h⟩:=obind h
  obtain⟨r12,h13,h⟩:=obind h
  have k:=oA 1 (ix23 (o:=.no) h11)<|oB 0 h9 o0
  rcases spl h with⟨h14,h⟩|⟨h14,h⟩
  exact fun j=>lH 2 [] [0] [] [1,3,5] (oD (dT p0.sub)<|oK 1 [] h14 (ih70 _ _ h13) k) (ih70Lco _ _ _ _ h)
  obtain rfl:=sj h
  exact fun j=>lF 1 [] (oK 1 [] h14 (ih70 _ _ h13) k)
  obtain rfl:=sj h
  exact fun j=>lF 0 [] (oB 0 h9 o0)
theorem c70{qq p0 r}(h:e70 qq p0=some r):K70 p0 r Ct:=(a70_70Lco _).1 _ _ h
def e18(qq:Nat)(p0:Tm):Option (Bool):=
 e19 qq p0>>=fun r1=>
 if decide (r1≤128)then
 e70 qq p0>>=fun r4=>
 some r4
 else
 some false
abbrev K18 (p0:Tm) (r:Bool) (C:Cf):Prop:=C 18 [] [tmA p0] (ab r) [] 0
theorem q18:Qf 18 Tryz.f18:=⟨Tryz.func18,by kernel_rfl⟩
theorem k18{p0 r}(h:K18 p0 r Ci):K18 p0 r Ct:=⟨h,⟨⟨tv,tv,⟨tv,dT _⟩,tv⟩,tv⟩,forall_nil,tv,forall_nil⟩
theorem c18{qq p0 r}(h:e18 qq p0=some r):K18 p0 r Ct:=by
 unfold e18 at h
 obtain⟨r1,h2,h⟩:=obind h
 have k:=oC 1 [] (c19 h2) o0
 rcases spl h with⟨h3,h⟩|⟨h3,h⟩
 obtain⟨r4,h5,h⟩:=obind h
 obtain rfl:=sj h
 exact k18 (tF q18 0 [] (oC 1 [] (c70 h5)<|oB 0 h3 k))
 obtain rfl:=sj h
 exact k18 (tF q18 0 [] (oB 0 h3 k))
def e71(qq:Nat)(p0:Tm)(p1:Int):Option (Int):=
 if p1==1 then
 if p0.k != 5 then
 some 1
 else
 some 0
 else
 some 0
abbrev K71 (p0:Tm) (p1 r:Int) (C:Cf):Prop:=C 71 [] [tmA p0,ai p1] (ai r) [] 0
theorem q71:Qf 71 Tryz.f71:=⟨Tryz.func71,by kernel_rfl⟩
theorem k71{p0 p1 r}(h:K71 p0 p1 r Ci):K71 p0 p1 r Ct:=⟨h,⟨⟨tv,tv,⟨tv,dT _⟩,tv⟩,tv,tv⟩,forall_nil,tv,forall_nil⟩
theorem c71{qq p0 p1 r}(h:e71 qq p0 p1=some r):K71 p0 p1 r Ct:=by
 unfold e71 at h
 rcases spl h with⟨h1,h⟩|⟨h1,h⟩
 have k:=oB 0 h1 o0
 rcases spl h with⟨h2,h⟩|⟨h2,h⟩
 obtain rfl:=sj h
 exact k71 (tF q71 0 [] (oB 1 h2 k))
 obtain rfl:=sj h
 exact k71 (tF q71 0 [] (oB 1 h2 k))
 obtain rfl:=sj h
 exact k71 (tF q71 0 [] (oB 0 h1 o0))
mutual
def e20:Nat->Tm->Int->Option (Int)
 |0,_,_=>none
 |qq+1,p0,p1=>
 if p0.k==1 then
 if decide (p0.n≥p1)then
 some (w64 ((w64 (p0.n-p1))+1))
 else
 e20Lcp qq p0 p1 0 0
 else
 e20Lcp qq p0 p1 0 0
def e20Lcp:Nat->Tm->Int->Int->Int->Option (Int)
 |0,_,_,_,_=>none
 |qq+1,p0,p1,v5,v6=>
 if decide (v6<(List.length p0.sub:Int))then
 gidx p0.sub v6>>=fun x4=>
 e71 qq p0 v6>>=fun r6=>
 e20 qq x4 (w64 (p1+r6))>>=fun r8=>
 e20Lcp qq p0 p1 (imax v5 r8) (w64 (v6+1))
 else
 some v5
end
def g20LcpE0(j:Nat->Value)(p0:Tm)(p1 v5 v6:Int):=sp j 42 0 [(1,ai p1),(2,.mp 0 0),(5,ai v5),(6,ai v6)]
def g20LcpS0(p0:Tm)(p1 v5 v6:Int):LSt:=⟨[(0,.cells [ai p0.k,ai p0.n,slv tmCells p0.sub .no])],1,[],0,[]⟩
abbrev K20 (p0:Tm) (p1 r:Int) (C:Cf):Prop:=C 20 [] [tmA p0,ai p1] (ai r) [] 0
theorem q20:Qf 20 Tryz.f20:=⟨Tryz.func20,by kernel_rfl⟩
theorem k20{p0 p1 r}(h:K20 p0 p1 r Ci):K20 p0 p1 r Ct:=⟨h,⟨⟨tv,tv,⟨tv,dT _⟩,tv⟩,tv,tv⟩,forall_nil,tv,forall_nil⟩
theorem a20_20Lcp:∀qq:Nat,(∀p0 p1 r,e20 qq p0 p1=some r->K20 p0 p1 r Ct)∧(∀p0 p1 v5 v6 r,e20Lcp qq p0 p1 v5 v6=some r->(∀j,Dl Tryz.prog 0 (inn (inn (rgt (lft (rgt (rgt (rgt (bod Tryz.f20)))))))) (g20LcpE0 j p0 p1 v5 v6) (g20LcpS0 p0 p1 v5 v6) (frameQ Tryz.prog 0 (FinQ Tryz.prog 0 Tryz.f20 (ai r) [] 0) [.blk 0,.seq (rgt (rgt (rgt (rgt (bod Tryz.f20)))))]))):=by
 intro qq
 induction qq with
 |zero=>
  exact⟨fun _ _ _ h=>nn h,fun _ _ _ _ _ h=>nn h⟩
 |succ qq ih=>
  obtain⟨ih20,ih20Lcp⟩:=ih
  refine⟨?_,?_⟩
  intro p0 p1 r h
  rw[e20]at h
  rcases spl h with⟨h1,h⟩|⟨h1,h⟩
  have k:=oB 1 h1 o0
  rcases spl h with⟨h2,h⟩|⟨h2,h⟩
  obtain rfl:=sj h
  exact k20 (tF q20 3 [] (oB 1 h2 k))
  exact k20 (tH q20 0 [] [0] [] [1,2,5,6] (oD (dT p0.sub)<|oB 1 h2 k) (ih20Lcp _ _ _ _ _ h))
  exact k20 (tH q20 0 [] [0] [] [1,2,5,6] (oD (dT p0.sub)<|oB 1 h1 o0) (ih20Lcp _ _ _ _ _ h))
  intro p0 p1 v5 v6 r h
  rw[e20Lcp]at h
  rcases spl h with⟨h3,h⟩|⟨h3,h⟩
  obtain⟨x4,h5,h⟩:=obind h
  obtain⟨r6,h7,h⟩:=obind h
  obtain⟨r8,h9,h⟩:=obind h
  exact fun j=>lH 2 [] [0] [] [1,2,5,6] (oD (dT p0.sub)<|oC 1 [] (ih20 _ _ _ h9)<|oC 2 [] (c71 h7)<|oA 1 (ix23 (o:=.no) h5)<|oB 2 h3 o0) (ih20Lcp _ _ _ _ _ h)
  obtain rfl:=sj h
  exact fun j=>lF 0 [] (oB 2 h3 o0)
theorem c20{qq p0 p1 r}(h:e20 qq p0 p1=some r):K20 p0 p1 r Ct:=(a20_20Lcp _).1 _ _ _ h
theorem goodT_iff(k n:Int)(l:List Tm):goodT (.mk k n l)=(headT (.mk k n l)&&goodL l):=by rw[goodT]
mutual
theorem ev_rgood:∀(t:Tm),t.Ok->Evt (fun q=>e70 q t) (goodT t)
 | .mk k n l,ho=>by
  refine Evt.succ ?_
  simp only[e70]
  have hL:∀c:Nat,l.length=c->Evt (fun q=>e70Lco q (.mk k n l) (c:Int) 0) (goodL l):=fun c hc=>
   ev_rgoodL l (.mk k n l) 0 c rfl (by simpa[Tm.sub]using hc) ho.1 ho.2
  by_cases h1:k=1
  ·subst h1
   refine Evt.ifT rfl ((tailG (p:=.mk 1 n l) (c:=0) (m:=1048576) (r:=goodL l) fun hc _ _=>Evt.ifF rfl (hL 0 hc)).eq ?_)
   rw[goodT_iff];simp[headT,Tm.k,Tm.n,Tm.sub]
   cases goodL l<;>simp[Bool.and_comm,Bool.and_left_comm,Bool.and_assoc]
  refine Evt.ifF (by simpa[Tm.k]using h1) ?_
  by_cases h6:k=6
  ·subst h6
   refine Evt.ifT rfl ((tailG (p:=.mk 6 n l) (c:=0) (m:=1048576) (r:=goodL l) fun hc _ _=>Evt.ifF rfl (hL 0 hc)).eq ?_)
   rw[goodT_iff];simp[headT,Tm.k,Tm.n,Tm.sub]
   cases goodL l<;>simp[Bool.and_comm,Bool.and_left_comm,Bool.and_assoc]
  refine Evt.ifF (by simpa[Tm.k]using h6) ?_
  by_cases h8:k=8
  ·subst h8
   refine Evt.ifT rfl ((tailG (p:=.mk 8 n l) (c:=0) (m:=1048576) (r:=goodL l) fun hc _ _=>Evt.ifF rfl (hL 0 hc)).eq ?_)
   rw[goodT_iff];simp[headT,Tm.k,Tm.n,Tm.sub]
   cases goodL l<;>simp[Bool.and_comm,Bool.and_left_comm,Bool.and_assoc]
  refine Evt.ifF (by simpa[Tm.k]using h8) ?_
  by_cases h2:k=2
  ·subst h2
   refine Evt.ifT rfl ((tailG (p:=.mk 2 n l) (c:=0) (m:=7) (r:=goodL l) fun hc _ _=>Evt.ifF rfl (hL 0 hc)).eq ?_)
   rw[goodT_iff];simp[headT,Tm.k,Tm.n,Tm.sub]
   cases goodL l<;>simp[Bool.and_comm,Bool.and_left_comm,Bool.and_assoc]
  refine Evt.ifF (by simpa[Tm.k]using h2) ?_
  by_cases h3:k=3
  ·subst h3
   refine Evt.ifT rfl ((tailG (p:=.mk 3 n l) (c:=2) (m:=0) (r:=goodL l) fun hc _ _=>Evt.ifF rfl (hL 2 hc)).eq ?_)
   rw[goodT_iff];simp[headT,Tm.k,Tm.n,Tm.sub]
   cases goodL l<;>simp[Bool.and_comm,Bool.and_left_comm,Bool.and_assoc]
  refine Evt.ifF (by simpa[Tm.k]using h3) ?_
  by_cases h4:k=4
  ·subst h4
   refine Evt.ifT rfl ((tailG (p:=.mk 4 n l) (c:=2) (m:=0) (r:=goodL l) fun hc _ _=>Evt.ifF rfl (hL 2 hc)).eq ?_)
   rw[goodT_iff];simp[headT,Tm.k,Tm.n,Tm.sub]
   cases goodL l<;>simp[Bool.and_comm,Bool.and_left_comm,Bool.and_assoc]
  refine Evt.ifF (by simpa[Tm.k]using h4) ?_
  by_cases h5:k=5
  ·subst h5
   refine Evt.ifT rfl ((tailG (p:=.mk 5 n l) (c:=2) (m:=0) (r:=goodL l) fun hc _ _=>Evt.ifF rfl (hL 2 hc)).eq ?_)
   rw[goodT_iff];simp[headT,Tm.k,Tm.n,Tm.sub]
   cases goodL l<;>simp[Bool.and_comm,Bool.and_left_comm,Bool.and_assoc]
  refine Evt.ifF (by simpa[Tm.k]using h5) ?_
  by_cases h7:k=7
  ·subst h7
   refine Evt.ifT rfl ?_
   rcases l with _|⟨x,l⟩
   ·refine(tailG (p:=.mk 7 n []) (c:=1) (m:=1048576) (r:=false) fun hc _ _=>by simp[Tm.sub]at hc).eq ?_
    rw[goodT_iff];simp[headT,Tm.k,Tm.n,Tm.sub]
   ·refine(tailG (p:=.mk 7 n (x::l)) (c:=1) (m:=1048576) (r:=(x.k==2)&&goodL (x::l)) fun hc _ _=>Evt.pure (a:=x) rfl ?_).eq ?_
    ·by_cases hx:x.k=2
     ·refine Evt.ifF (by simp[hx]) ((hL 1 (by simpa[Tm.sub]using hc)).eq (by simp[hx]))
     ·exact Evt.ifT (by simp[hx]) (Evt.ret.eq (by simp[hx]))
    ·rw[goodT_iff];simp[headT,Tm.k,Tm.n,Tm.sub]
     cases goodL (x::l)<;>cases (x.k==2)<;>simp[Bool.and_comm,Bool.and_left_comm,Bool.and_assoc]
  refine Evt.ifF (by simpa[Tm.k]using h7) (Evt.ret.eq ?_)
  rw[goodT_iff]
  have:headT (.mk k n l)=false:=by
   simp only[headT,Tm.k]
   by_cases h9:1≤k∧k≤8
   ·omega
   ·by_cases h10:1≤k
    ·simp[show ¬k≤8 by omega]
    ·simp[h10]
  simp[this]
theorem ev_rgoodL:∀(l:List Tm) (p:Tm) (v c:Nat),p.sub.drop v=l->p.sub.length=c->p.sub.length<9223372036854775808->OkL l->Evt (fun q=>e70Lco q p (c:Int) (v:Int)) (goodL l)
 | [],p,v,c,hd,hc,hl,ho=>by
  refine Evt.succ ?_
  simp only[e70Lco]
  rw[goodL,←hc]
  exact Evt.ifF (drop_nil hd) Evt.ret
 |t::l,p,v,c,hd,hc,hl,ho=>by
  refine Evt.succ ?_
  simp only[e70Lco]
  refine Evt.ifT (by rw[←hc];exact drop_dec hd) (Evt.pure (drop_idx hd) ((ev_rgood t ho.1).bind ?_))
  rw[goodL]
  cases goodT t with
  |false=>exact Evt.ifF rfl Evt.ret
  |true=>
   refine Evt.ifT rfl ?_
   rw[w64_nat v (by have:=drop_lt hd;omega)]
   exact ev_rgoodL l p (v+1) c (drop_next hd) hc hl ho.2
end
theorem ev_rShaped(t:Tm)(ho:t.Ok):Evt (fun q=>e18 q t) (shapedT t):=by
 simp only[e18]
 refine(ev_rDepth t).bind ?_
 unfold shapedT rdepT
 by_cases h1:t.nodes≤8192
 ·rw[if_pos h1]
  by_cases h2:t.high≤128
  ·exact Evt.ifT (by simp<;>omega) (((ev_rgood t ho).bind Evt.ret).eq (by simp[h1,h2]))
  ·exact Evt.ifF (by simp<;>omega) (Evt.ret.eq (by simp[h2]))
 ·rw[if_neg h1]
  exact Evt.ifF (by simp) (Evt.ret.eq (by simp[h1]))
def undR(k:Int)(i:Nat):Int:=if i=1∧k≠5 then 1 else 0
theorem ev_rBeneath(t:Tm)(i:Nat):Evt (fun q=>e71 q t (i:Int)) (undR t.k i):=by
 refine Evt.mk fun q=>?_
 simp only[e71,undR]
 by_cases h1:i=1
 ·subst h1;by_cases h5:t.k=5<;>simp[h5]
 ·have:¬((i:Int)=1):=by omega
  simp[h1,this]
theorem und_ref{k n:Int}{l:List Tm}(h:headT (.mk k n l)=true){i:Nat}(hi:i<l.length):undR k i=undT k i:=by
 unfold undT undR
 by_cases h1:i=1
 ·subst h1
  have hs:=head_spec h
  simp only[Tm.k,Tm.n,Tm.sub]at hs
  have:k=3∨k=4∨k=5:=by
   by_cases h7:k=7
   ·obtain⟨x,hx,_⟩:=hs.2.2.2.2.2.2.1 h7
    rw[hx]at hi;simp at hi
   ·by_cases h3:k=1∨k=2∨k=6∨k=8
    ·rw[hs.2.2.2.2.2.2.2.1 h3]at hi;simp at hi
    ·omega
  rcases this with rfl|rfl|rfl<;>simp
 ·simp[h1]
mutual
theorem ev_rLoose:∀(t:Tm) (b:Int),goodT t=true->0≤b->b+t.high≤4611686018427387904->Evt (fun q=>e20 q t b) (looT t b)
 | .mk k n l,b,hg,h0,h1=>by
  refine Evt.succ ?_
  simp only[e20,Tm.k,Tm.n]
  have hh:=goodT_mk hg
  have hn:=head_n hh.1
  have hl:Evt (fun q=>e20Lcp q (.mk k n l) b 0 0) (looL l k 0 b):=
   (ev_rLooseL l (.mk k n l) 0 b 0 rfl hh.1 hh.2 h0 (by omega) (by rw[Tm.high]at h1;omega)).eq (by have:=looL_nn l k 0 b;simp only[Tm.k];omega)
  rw[Tm.high]at h1
  rw[looT]
  by_cases hk:k=1
  ·rw[if_pos hk]
   refine Evt.ifT (by simpa using hk) ?_
   by_cases hb:n≥b
   ·refine Evt.ifT (by simpa using hb) (Evt.ret.eq ?_)
    rw[w64_id (x:=n-b) (by omega) (by omega),w64_id (by omega) (by omega)];omega
   ·refine Evt.ifF (by simpa using hb) (hl.eq ?_)
    have:l=[]:=by
     have:=hh.1
     subst hk
     simp[headT,Tm.k,Tm.n,Tm.sub]at this
     exact this.2.1
    subst this
    rw[looL];omega
  ·rw[if_neg hk]
   exact Evt.ifF (by simpa using hk) hl
theorem ev_rLooseL:∀(l:List Tm) (p:Tm) (v:Nat) (b m:Int),p.sub.drop v=l->headT p=true->goodL l=true->0≤b->0≤m->b+1+highL l≤4611686018427387904->Evt (fun q=>e20Lcp q p b m (v:Int)) (max m (looL l p.k v b))
 | [],p,v,b,m,hd,hp,ho,h0,hm,h1=>by
  refine Evt.succ ?_
  simp only[e20Lcp]
  rw[looL]
  exact Evt.ifF (drop_nil hd) (Evt.ret.eq (by omega))
 |t::l,p,v,b,m,hd,hp,ho,h0,hm,h1=>by
  refine Evt.succ ?_
  simp only[e20Lcp]
  have hg:=goodL_cons ho
  have hu:=undT_01 p.k v
  have hlt:=drop_lt hd
  obtain⟨k,n,ls⟩:=p
  have hls:=(head_n hp).2.2.2.2
  simp only[Tm.sub]at hlt hd
  have he:=und_ref hp hlt
  rw[highL]at h1
  refine Evt.ifT (drop_dec hd) (Evt.pure (drop_idx hd) ((ev_rBeneath (.mk k n ls) v).bind ?_))
  simp only[Tm.k]at hu ⊢
  rw[he,w64_id (x:=b+undT k v) (by omega) (by omega)]
  refine(ev_rLoose t (b+undT k v) hg.1 (by omega) (by omega)).bind ?_
  rw[w64_nat v (by omega),imax_eq]
  refine(ev_rLooseL l (.mk k n ls) (v+1) b _ (drop_next hd) hp hg.2 h0 (by omega) (by omega)).eq ?_
  simp only[Tm.k]
  rw[looL];omega
end
def e85Lcq:Nat->(List Int)->Int->(List Int)->Bool->Int->Option (List Int)
 |0,_,_,_,_,_=>none
 |qq+1,p0,p1,v5,v6,v7=>
 if v6 then
 if decide (v7<(List.length p0:Int))then
 gidx p0 v7>>=fun x2=>
 gapp 8 v5 [x2]>>=fun l4=>
 e85Lcq qq p0 p1 l4 true (w64 (v7+1))
 else
 some v5
 else
 if decide (v7<(List.length p0:Int))then
 gidx p0 v7>>=fun x7=>
 if decide (x7≥p1)then
 if decide (x7>p1)then
 gapp 8 v5 [p1]>>=fun l11=>
 gapp 8 l11 [x7]>>=fun l13=>
 e85Lcq qq p0 p1 l13 true (w64 (v7+1))
 else
 gapp 8 v5 [x7]>>=fun l15=>
 e85Lcq qq p0 p1 l15 true (w64 (v7+1))
 else
 gapp 8 v5 [x7]>>=fun l17=>
 e85Lcq qq p0 p1 l17 false (w64 (v7+1))
 else
 gapp 8 v5 [p1]>>=fun l19=>
 some l19
def e85(qq:Nat)(p0:List Int)(p1:Int):Option (List Int):=
 e85Lcq qq p0 p1 [] false 0
def g85LcqE0(j:Nat->Value)(p0:List Int)(p1:Int)(v5:List Int)(v6:Bool)(v7:Int):=sp j 49 0 [(0,slv intC p0 .no),(1,ai p1),(5,slv intC v5 (.st 0 1)),(6,ab v6),(7,ai v7)]
def g85LcqS0(p0:List Int)(p1:Int)(v5:List Int)(v6:Bool)(v7:Int):LSt:=⟨[],0,[0],1,[]⟩
abbrev K85 (p0:List Int) (p1:Int) (r:List Int) (C:Cf):Prop:=C 85 [] [slv intC p0 .no,ai p1] (.sl (flat intC r) (List.length r) .no) [] 0
theorem q85:Qf 85 Tryz.f85:=⟨Tryz.func85,by kernel_rfl⟩
theorem k85{p0 p1 r}(h:K85 p0 p1 r Ci):K85 p0 p1 r Ct:=⟨h,⟨⟨tv,dI _⟩,tv,tv⟩,forall_nil,dI _,forall_nil⟩
theorem l85Lcq:∀qq:Nat,(∀p0 p1 v5 v6 v7 r,e85Lcq qq p0 p1 v5 v6 v7=some r->(∀j,Dl Tryz.prog 0 (inn (inn (rgt (lft (rgt (rgt (rgt (bod Tryz.f85)))))))) (g85LcqE0 j p0 p1 v5 v6 v7) (g85LcqS0 p0 p1 v5 v6 v7) (frameQ Tryz.prog 0 (FinQ Tryz.prog 0 Tryz.f85 (.sl (flat intC r) (List.length r) .no) [] 0) [.blk 0,.seq (rgt (rgt (rgt (rgt (bod Tryz.f85)))))]))):=by
 intro qq
 induction qq with
 |zero=>
  exact fun _ _ _ _ _ _ h=>nn h
 |succ qq ih=>
  intro p0 p1 v5 v6 v7 r h
  rw[e85Lcq]at h
  cases v6
  replace h:=ifF rfl h
  rcases spl h with⟨h6,h⟩|⟨h6,h⟩
  obtain⟨x7,h8,h⟩:=obind h
  have k:=oA 1 (ix41 (o:=.no) h8)<|oB 1 h6 o0
  rcases spl h with⟨h9,h⟩|⟨h9,h⟩
  have k:=oA 0 (ix41 (o:=.no) h8)<|oB 1 h9 k
  rcases spl h with⟨h10,h⟩|⟨h10,h⟩
  obtain⟨l11,h12,h⟩:=obind h
  obtain⟨l13,h14,h⟩:=obind h
  exact fun j=>lH 1 [] [] [2] [0,1,5,6,7] (oD (dI l13)<|oD (dI p0)<|oP 2 (apS41 h14 (by simp))<|oA 0 (ix41 (o:=.no) h8)<|oP 1 (apS41 h12 (by simp))<|oB 1 h10 k) (ih _ _ _ _ _ _ h)
  obtain⟨l15,h16,h⟩:=obind h
  exact fun j=>lH 1 [] [] [1] [0,1,5,6,7] (oD (dI l15)<|oD (dI p0)<|oP 2 (apS41 h16 (by simp))<|oA 0 (ix41 (o:=.no) h8)<|oB 1 h10 k) (ih _ _ _ _ _ _ h)
  obtain⟨l17,h18,h⟩:=obind h
  exact fun j=>lH 1 [] [] [1] [0,1,5,6,7] (oD (dI l17)<|oD (dI p0)<|oP 2 (apS41 h18 (by simp))<|oA 0 (ix41 (o:=.no) h8)<|oB 1 h9 k) (ih _ _ _ _ _ _ h)
  obtain⟨l19,h20,h⟩:=obind h
  obtain rfl:=sj h
  exact fun j=>lF 0 [] (oD (dI l19)<|oP 2 (apS41 h20 (by simp))<|oB 1 h6 o0)
  replace h:=ifT rfl h
  rcases spl h with⟨h1,h⟩|⟨h1,h⟩
  obtain⟨x2,h3,h⟩:=obind h
  obtain⟨l4,h5,h⟩:=obind h
  exact fun j=>lH 1 [] [] [1] [0,1,5,6,7] (oD (dI l4)<|oD (dI p0)<|oP 2 (apS41 h5 (by simp))<|oA 1 (ix41 (o:=.no) h3)<|oB 1 h1 o0) (ih _ _ _ _ _ _ h)
  obtain rfl:=sj h
  exact fun j=>lF 1 [] (oD (dI v5)<|oB 1 h1 o0)
theorem c85{qq p0 p1 r}(h:e85 qq p0 p1=some r):K85 p0 p1 r Ct:=by
 unfold e85 at h
 exact k85 (tH q85 1 [(none,5,1)] [] [0] [0,1,5,6,7] (oD (dI ([]:List Int))<|oD (dI p0) o0) (l85Lcq _ _ _ _ _ _ _ h))
mutual
def e30:Nat->Tm->Int->Int->Option (List Int)
 |0,_,_,_=>none
 |qq+1,p0,p1,p2=>
 if p0.k==p1 then
 gapp 8 ([]:List Int) [p0.n]>>=fun l2=>
 e30Lcr qq p0 p1 p2 l2 0
 else
 if p0.k==p2 then
 gapp 8 ([]:List Int) [p0.n]>>=fun l5=>
 e30Lcr qq p0 p1 p2 l5 0
 else
 e30Lcr qq p0 p1 p2 [] 0
def e30Lcr:Nat->Tm->Int->Int->(List Int)->Int->Option (List Int)
 |0,_,_,_,_,_=>none
 |qq+1,p0,p1,p2,v7,v8=>
 if decide (v8<(List.length p0.sub:Int))then
 gidx p0.sub v8>>=fun x5=>
 e30 qq x5 p1 p2>>=fun r7=>
 e30Lcs qq p0 p1 p2 v8 r7 0 v7
 else
 some v7
def e30Lcs:Nat->Tm->Int->Int->Int->(List Int)->Int->(List Int)->Option (List Int)
 |0,_,_,_,_,_,_,_=>none
 |qq+1,p0,p1,p2,v8,r7,v10,v7=>
 if decide (v10<(List.length r7:Int))then
 gidx r7 v10>>=fun x10=>
 e85 qq v7 x10>>=fun r12=>
 e30Lcs qq p0 p1 p2 v8 r7 (w64 (v10+1)) r12
 else
 e30Lcr qq p0 p1 p2 v7 (w64 (v8+1))
end
def g30LcrE0(j:Nat->Value)(p0:Tm)(p1 p2:Int)(v7:List Int)(v8:Int):=sp j 55 0 [(1,ai p1),(2,ai p2),(3,.mp 0 0),(7,slv intC v7 (.st 0 1)),(8,ai v8)]
def g30LcrS0(p0:Tm)(p1 p2:Int)(v7:List Int)(v8:Int):LSt:=⟨[(0,.cells [ai p0.k,ai p0.n,slv tmCells p0.sub .no])],1,[0],1,[]⟩
def g30LcrE1(j:Nat->Value)(p0:Tm)(p1 p2:Int)(v7:List Int)(v8:Int):=sp j 55 0 [(1,ai p1),(2,ai p2),(3,.mp 0 0),(7,slv intC v7 .no),(8,ai v8)]
def g30LcrS1(p0:Tm)(p1 p2:Int)(v7:List Int)(v8:Int):LSt:=⟨[(0,.cells [ai p0.k,ai p0.n,slv tmCells p0.sub .no])],1,[],0,[]⟩
def g30LcrE2(j:Nat->Value)(p0:Tm)(p1 p2:Int)(v7:List Int)(v8:Int):=sp j 55 0 [(1,ai p1),(2,ai p2),(3,.mp 0 0),(7,slv intC v7 .full),(8,ai v8)]
def g30LcrS2(p0:Tm)(p1 p2:Int)(v7:List Int)(v8:Int):LSt:=⟨[(0,.cells [ai p0.k,ai p0.n,slv tmCells p0.sub .no])],1,[],0,[]⟩
def g30LcsE0(j:Nat->Value)(p0:Tm)(p1 p2 v8:Int)(r7:List Int)(v10:Int)(v7:List Int):=sp j 55 0 [(1,ai p1),(2,ai p2),(3,.mp 0 0),(7,slv intC v7 (.st 0 1)),(8,ai v8),(9,slv intC r7 .no),(10,ai v10)]
def g30LcsS0(p0:Tm)(p1 p2 v8:Int)(r7:List Int)(v10:Int)(v7:List Int):LSt:=⟨[(0,.cells [ai p0.k,ai p0.n,slv tmCells p0.sub .no])],1,[0],1,[]⟩
def g30LcsE1(j:Nat->Value)(p0:Tm)(p1 p2 v8:Int)(r7:List Int)(v10:Int)(v7:List Int):=sp j 55 0 [(1,ai p1),(2,ai p2),(3,.mp 0 0),(7,slv intC v7 .no),(8,ai v8),(9,slv intC r7 .no),(10,ai v10)]
def g30LcsS1(p0:Tm)(p1 p2 v8:Int)(r7:List Int)(v10:Int)(v7:List Int):LSt:=⟨[(0,.cells [ai p0.k,ai p0.n,slv tmCells p0.sub .no])],1,[],0,[]⟩
def g30LcsE2(j:Nat->Value)(p0:Tm)(p1 p2 v8:Int)(r7:List Int)(v10:Int)(v7:List Int):=sp j 55 0 [(1,ai p1),(2,ai p2),(3,.mp 0 0),(7,slv intC v7 .full),(8,ai v8),(9,slv intC r7 .no),(10,ai v10)]
def g30LcsS2(p0:Tm)(p1 p2 v8:Int)(r7:List Int)(v10:Int)(v7:List Int):LSt:=⟨[(0,.cells [ai p0.k,ai p0.n,slv tmCells p0.sub .no])],1,[],0,[]⟩
abbrev K30 (p0:Tm) (p1 p2:Int) (r:List Int) (C:Cf):Prop:=C 30 [] [tmA p0,ai p1,ai p2] (.sl (flat intC r) (List.length r) .no) [] 0
theorem q30:Qf 30 Tryz.f30:=⟨Tryz.func30,by kernel_rfl⟩
theorem k30{p0 p1 p2 r}(h:K30 p0 p1 p2 r Ci):K30 p0 p1 p2 r Ct:=⟨h,⟨⟨tv,tv,⟨tv,dT _⟩,tv⟩,tv,tv,tv⟩,forall_nil,dI _,forall_nil⟩
theorem a30_30Lcr_30Lcs:∀qq:Nat,(∀p0 p1 p2 r,e30 qq p0 p1 p2=some r->K30 p0 p1 p2 r Ct)∧(∀p0 p1 p2 v7 v8 r,e30Lcr qq p0 p1 p2 v7 v8=some r->(∀j,Dl Tryz.prog 0 (inn (inn (rgt (lft (rgt (rgt (rgt (bod Tryz.f30)))))))) (g30LcrE0 j p0 p1 p2 v7 v8) (g30LcrS0 p0 p1 p2 v7 v8) (frameQ Tryz.prog 0 (FinQ Tryz.prog 0 Tryz.f30 (.sl (flat intC r) (List.length r) .no) [] 0) [.blk 0,.seq (rgt (rgt (rgt (rgt (bod Tryz.f30)))))]))∧(∀j,Dl Tryz.prog 0 (inn (inn (rgt (lft (rgt (rgt (rgt (bod Tryz.f30)))))))) (g30LcrE1 j p0 p1 p2 v7 v8) (g30LcrS1 p0 p1 p2 v7 v8) (frameQ Tryz.prog 0 (FinQ Tryz.prog 0 Tryz.f30 (.sl (flat intC r) (List.length r) .no) [] 0) [.blk 0,.seq (rgt (rgt (rgt (rgt (bod Tryz.f30)))))]))∧(∀j,Dl Tryz.prog 0 (inn (inn (rgt (lft (rgt (rgt (rgt (bod Tryz.f30)))))))) (g30LcrE2 j p0 p1 p2 v7 v8) (g30LcrS2 p0 p1 p2 v7 v8) (frameQ Tryz.prog 0 (FinQ Tryz.prog 0 Tryz.f30 (.sl (flat intC r) (List.length r) .no) [] 0) [.blk 0,.seq (rgt (rgt (rgt (rgt (bod Tryz.f30)))))])))∧(∀p0 p1 p2 v8 r7 v10 v7 r,e30Lcs qq p0 p1 p2 v8 r7 v10 v7=some r->(∀j,Dl Tryz.prog 0 (inn (inn (rgt (rgt (inn (lft (rgt (inn (inn (rgt (lft (rgt (rgt (rgt (bod Tryz.f30))))))))))))))) (g30LcsE0 j p0 p1 p2 v8 r7 v10 v7) (g30LcsS0 p0 p1 p2 v8 r7 v10 v7) (frameQ Tryz.prog 0 (FinQ Tryz.prog 0 Tryz.f30 (.sl (flat intC r) (List.length r) .no) [] 0) [.blk 2,.blk 1,.seq (rgt (rgt (inn (inn (rgt (lft (rgt (rgt (rgt (bod Tryz.f30)))))))))),.loop (inn (inn (rgt (lft (rgt (rgt (rgt (bod Tryz.f30)))))))),.blk 0,.seq (rgt (rgt (rgt (rgt (bod Tryz.f30)))))]))∧(∀j,Dl Tryz.prog 0 (inn (inn (rgt (rgt (inn (lft (rgt (inn (inn (rgt (lft (rgt (rgt (rgt (bod Tryz.f30))))))))))))))) (g30LcsE1 j p0 p1 p2 v8 r7 v10 v7) (g30LcsS1 p0 p1 p2 v8 r7 v10 v7) (frameQ Tryz.prog 0 (FinQ Tryz.prog 0 Tryz.f30 (.sl (flat intC r) (List.length r) .no) [] 0) [.blk 2,.blk 1,.seq (rgt (rgt (inn (inn (rgt (lft (rgt (rgt (rgt (bod Tryz.f30)))))))))),.loop (inn (inn (rgt (lft (rgt (rgt (rgt (bod Tryz.f30)))))))),.blk 0,.seq (rgt (rgt (rgt (rgt (bod Tryz.f30)))))]))∧(∀j,Dl Tryz.prog 0 (inn (inn (rgt (rgt (inn (lft (rgt (inn (inn (rgt (lft (rgt (rgt (rgt (bod Tryz.f30))))))))))))))) (g30LcsE2 j p0 p1 p2 v8 r7 v10 v7) (g30LcsS2 p0 p1 p2 v8 r7 v10 v7) (frameQ Tryz.prog 0 (FinQ Tryz.prog 0 Tryz.f30 (.sl (flat intC r) (List.length r) .no) [] 0) [.blk 2,.blk 1,.seq (rgt (rgt (inn (inn (rgt (lft (rgt (rgt (rgt (bod Tryz.f30)))))))))),.loop (inn (inn (rgt (lft (rgt (rgt (rgt (bod Tryz.f30)))))))),.blk 0,.seq (rgt (rgt (rgt (rgt (bod Tryz.f30)))))]))):=by
 intro qq
 induction qq with
 |zero=>
  exact⟨fun _ _ _ _ h=>nn h,fun _ _ _ _ _ _ h=>nn h,fun _ _ _ _ _ _ _ _ h=>nn h⟩
 |succ qq ih=>
  obtain⟨ih30,ih30Lcr,ih30Lcs⟩:=ih
  refine⟨?_,?_,?_⟩
  intro p0 p1 p2 r h
  rw[e30]at h
  rcases spl h with⟨h1,h⟩|⟨h1,h⟩
  obtain⟨l2,h3,h⟩:=obind h
  exact k30 (tH q30 0 [] [0] [0] [1,2,3,7,8] (oD (dI l2)<|oD (dT p0.sub)<|oP 2 (apS41 h3 (by simp))<|oB 2 h1 o0) ((ih30Lcr _ _ _ _ _ _ h).1))
  have k:=oB 2 h1 o0
  rcases spl h with⟨h4,h⟩|⟨h4,h⟩
  obtain⟨l5,h6,h⟩:=obind h
  exact k30 (tH q30 0 [] [0] [0] [1,2,3,7,8] (oD (dI l5)<|oD (dT p0.sub)<|oP 2 (apS41 h6 (by simp))<|oB 1 h4 k) ((ih30Lcr _ _ _ _ _ _ h).1))
  exact k30 (tH q30 0 [] [0] [] [1,2,3,7,8] (oD (dI ([]:List Int))<|oD (dT p0.sub)<|oB 1 h4 k) ((ih30Lcr _ _ _ _ _ _ h).2.2))
  intro p0 p1 p2 v7 v8 r h
  rw[e30Lcr]at h
  refine⟨?_,?_,?_⟩
  rcases spl h with⟨h4,h⟩|⟨h4,h⟩
  obtain⟨x5,h6,h⟩:=obind h
  obtain⟨r7,h8,h⟩:=obind h
  exact fun j=>lH 0 [] [0] [0] [1,2,3,7,8,9,10] (oD (dI r7)<|oD (dI v7)<|oD (dT p0.sub)<|oC 1 [] (ih30 _ _ _ _ h8)<|oA 1 (ix23 (o:=.no) h6)<|oB 2 h4 o0) ((ih30Lcs _ _ _ _ _ _ _ _ h).1)
  obtain rfl:=sj h
  exact fun j=>lF 0 [] (oD (dI v7)<|oB 2 h4 o0)
  rcases spl h with⟨h4,h⟩|⟨h4,h⟩
  obtain⟨x5,h6,h⟩:=obind h
  obtain⟨r7,h8,h⟩:=obind h
  exact fun j=>lH 0 [] [0] [] [1,2,3,7,8,9,10] (oD (dI r7)<|oD (dI v7)<|oD (dT p0.sub)<|oC 1 [] (ih30 _ _ _ _ h8)<|oA 1 (ix23 (o:=.no) h6)<|oB 2 h4 o0) ((ih30Lcs _ _ _ _ _ _ _ _ h).2.1)
  obtain rfl:=sj h
  exact fun j=>lF 0 [] (oD (dI v7)<|oB 2 h4 o0)
  rcases spl h with⟨h4,h⟩|⟨h4,h⟩
  obtain⟨x5,h6,h⟩:=obind h
  obtain⟨r7,h8,h⟩:=obind h
  exact fun j=>lH 0 [] [0] [] [1,2,3,7,8,9,10] (oD (dI r7)<|oD (dI v7)<|oD (dT p0.sub)<|oC 1 [] (ih30 _ _ _ _ h8)<|oA 1 (ix23 (o:=.no) h6)<|oB 2 h4 o0) ((ih30Lcs _ _ _ _ _ _ _ _ h).2.2)
  obtain rfl:=sj h
  exact fun j=>lF 0 [] (oD (dI v7)<|oB 2 h4 o0)
  intro p0 p1 p2 v8 r7 v10 v7 r h
  rw[e30Lcs]at h
  refine⟨?_,?_,?_⟩
  rcases spl h with⟨h9,h⟩|⟨h9,h⟩
  obtain⟨x10,h11,h⟩:=obind h
  obtain⟨r12,h13,h⟩:=obind h
  exact fun j=>lH 1 [] [0] [] [1,2,3,7,8,9,10] (oD (dI r7)<|oD (dI r12)<|oD (dT p0.sub)<|oC 1 [] (c85 h13)<|oA 0 (ix41 (o:=.no) h11)<|oB 1 h9 o0) ((ih30Lcs _ _ _ _ _ _ _ _ h).2.1)
  exact fun j=>lH 1 [] [0] [0] [1,2,3,7,8] (oD (dI v7)<|oD (dT p0.sub)<|oB 1 h9 o0) ((ih30Lcr _ _ _ _ _ _ h).1)
  rcases spl h with⟨h9,h⟩|⟨h9,h⟩
  obtain⟨x10,h11,h⟩:=obind h
  obtain⟨r12,h13,h⟩:=obind h
  exact fun j=>lH 1 [] [0] [] [1,2,3,7,8,9,10] (oD (dI r7)<|oD (dI r12)<|oD (dT p0.sub)<|oC 1 [] (c85 h13)<|oA 0 (ix41 (o:=.no) h11)<|oB 1 h9 o0) ((ih30Lcs _ _ _ _ _ _ _ _ h).2.1)
  exact fun j=>lH 1 [] [0] [] [1,2,3,7,8] (oD (dI v7)<|oD (dT p0.sub)<|oB 1 h9 o0) ((ih30Lcr _ _ _ _ _ _ h).2.1)
  rcases spl h with⟨h9,h⟩|⟨h9,h⟩
  obtain⟨x10,h11,h⟩:=obind h
  obtain⟨r12,h13,h⟩:=obind h
  exact fun j=>lH 1 [] [0] [] [1,2,3,7,8,9,10] (oD (dI r7)<|oD (dI r12)<|oD (dT p0.sub)<|oC 1 [] (c85 h13)<|oA 0 (ix41 (o:=.no) h11)<|oB 1 h9 o0) ((ih30Lcs _ _ _ _ _ _ _ _ h).2.1)
  exact fun j=>lH 1 [] [0] [] [1,2,3,7,8] (oD (dI v7)<|oD (dT p0.sub)<|oB 1 h9 o0) ((ih30Lcr _ _ _ _ _ _ h).2.2)
theorem c30{qq p0 p1 p2 r}(h:e30 qq p0 p1 p2=some r):K30 p0 p1 p2 r Ct:=(a30_30Lcr_30Lcs _).1 _ _ _ _ h
def e168Lct:Nat->Int->(List Int)->Int->Option (Bool)
 |0,_,_,_=>none
 |qq+1,p2,r7,v8=>
 if decide (v8<(List.length r7:Int))then
 gidx r7 v8>>=fun x10=>
 if decide (x10≥p2)then
 some false
 else
 e168Lct qq p2 r7 (w64 (v8+1))
 else
 some true
def e168(qq:Nat)(p0:Tm)(p1 p2:Int):Option (Bool):=
 e18 qq p0>>=fun r1=>
 if r1 then
 e20 qq p0 0>>=fun r4=>
 if decide (r4>p1)then
 some false
 else
 e30 qq p0 6 7>>=fun r7=>
 e168Lct qq p2 r7 0
 else
 some false
def g168LctE0(j:Nat->Value)(p2:Int)(r7:List Int)(v8:Int):=sp j 32 0 [(2,ai p2),(7,slv intC r7 .no),(8,ai v8)]
def g168LctS0(p2:Int)(r7:List Int)(v8:Int):LSt:=⟨[],0,[],0,[]⟩
abbrev K168 (p0:Tm) (p1 p2:Int) (r:Bool) (C:Cf):Prop:=C 168 [] [tmA p0,ai p1,ai p2] (ab r) [] 0
theorem q168:Qf 168 Tryz.f168:=⟨Tryz.func168,by kernel_rfl⟩
theorem k168{p0 p1 p2 r}(h:K168 p0 p1 p2 r Ci):K168 p0 p1 p2 r Ct:=⟨h,⟨⟨tv,tv,⟨tv,dT _⟩,tv⟩,tv,tv,tv⟩,forall_nil,tv,forall_nil⟩
theorem l168Lct:∀qq:Nat,(∀p2 r7 v8 r,e168Lct qq p2 r7 v8=some r->(∀j,Dl Tryz.prog 0 (inn (inn (rgt (lft (rgt (rgt (rgt (bod Tryz.f168)))))))) (g168LctE0 j p2 r7 v8) (g168LctS0 p2 r7 v8) (frameQ Tryz.prog 0 (FinQ Tryz.prog 0 Tryz.f168 (ab r) [] 0) [.blk 0,.seq (rgt (rgt (rgt (rgt (bod Tryz.f168)))))]))):=by
 intro qq
 induction qq with
 |zero=>
  exact fun _ _ _ _ h=>nn h
 |succ qq ih=>
  intro p2 r7 v8 r h
  rw[e168Lct]at h
  rcases spl h with⟨h9,h⟩|⟨h9,h⟩
  obtain⟨x10,h11,h⟩:=obind h
  have k:=oA 0 (ix41 (o:=.no) h11)<|oB 1 h9 o0
  rcases spl h with⟨h12,h⟩|⟨h12,h⟩
  obtain rfl:=sj h
  exact fun j=>lF 0 [] (oB 1 h12 k)
  exact fun j=>lH 1 [] [] [] [2,7,8] (oD (dI r7)<|oB 1 h12 k) (ih _ _ _ _ h)
  obtain rfl:=sj h
  exact fun j=>lF 0 [] (oB 1 h9 o0)
theorem c168{qq p0 p1 p2 r}(h:e168 qq p0 p1 p2=some r):K168 p0 p1 p2 r Ct:=by
 unfold e168 at h
 obtain⟨r1,h2,h⟩:=obind h
 rcases spl h with⟨h3,h⟩|⟨h3,h⟩
 obtain⟨r4,h5,h⟩:=obind h
 have k:=oC 2 [] (c20 h5)<|oK 1 [] h3 (c18 h2) o0
 rcases spl h with⟨h6,h⟩|⟨h6,h⟩
 obtain rfl:=sj h
 exact k168 (tF q168 0 [] (oB 0 h6 k))
 obtain⟨r7,h8,h⟩:=obind h
 exact k168 (tH q168 0 [] [] [] [2,7,8] (oD (dI r7)<|oC 1 [] (c30 h8)<|oB 0 h6 k) (l168Lct _ _ _ _ _ h))
 obtain rfl:=sj h
 exact k168 (tF q168 1 [] (oK 1 [] h3 (c18 h2) o0))
def e116(qq:Nat)(p0:Tm)(p1:Int):Option (Bool):=
 e168 qq p0 0 p1>>=fun r1=>
 if r1 then
 e30 qq p0 8 8>>=fun r4=>
 some ((List.length r4:Int)==0)
 else
 some false
abbrev K116 (p0:Tm) (p1:Int) (r:Bool) (C:Cf):Prop:=C 116 [] [tmA p0,ai p1] (ab r) [] 0
theorem q116:Qf 116 Tryz.f116:=⟨Tryz.func116,by kernel_rfl⟩
theorem k116{p0 p1 r}(h:K116 p0 p1 r Ci):K116 p0 p1 r Ct:=⟨h,⟨⟨tv,tv,⟨tv,dT _⟩,tv⟩,tv,tv⟩,forall_nil,tv,forall_nil⟩
theorem c116{qq p0 p1 r}(h:e116 qq p0 p1=some r):K116 p0 p1 r Ct:=by
 unfold e116 at h
 obtain⟨r1,h2,h⟩:=obind h
 rcases spl h with⟨h3,h⟩|⟨h3,h⟩
 obtain⟨r4,h5,h⟩:=obind h
 obtain rfl:=sj h
 exact k116 (tF q116 2 [] (oC 1 [] (c30 h5)<|oK 1 [] h3 (c168 h2) o0))
 obtain rfl:=sj h
 exact k116 (tF q116 0 [] (oK 1 [] h3 (c168 h2) o0))
theorem tot_put:∀(r l:List Int) (n:Int) (v:Nat) (acc:List Int) (done:Bool),l.drop v=r->l.length≤8192->acc.length≤v+1->(done=false->acc.length≤v)->v≤l.length ->
  Tot (fun q=>e85Lcq q l n acc done (v:Int)) fun o=>o.length≤acc.length+r.length+1∧(done=true->o.length≤acc.length+r.length)∧∀x,x∈o↔x∈acc∨x∈r∨(done=false∧x=n)
 | [],l,n,v,acc,done,hd,hl,ha,hb,hv=>by
  refine Tot.succ ?_
  simp only[e85Lcq]
  cases done with
  |true=>
   refine Tot.ite (fun _=>Tot.ite (fun h=>?_) fun _=>Tot.ret ⟨(by simp<;>omega),fun _=>(by simp),fun x=>by simp⟩) (fun h=>by cases h)
   rw[drop_nil hd]at h;cases h
  |false=>
   refine Tot.ite (fun h=>by cases h) (fun _=>Tot.ite (fun h=>?_) fun _=>Tot.pure (gapp_ok (by simp<;>omega)) (Tot.ret ⟨(by simp),fun h=>(by cases h),fun x=>by simp⟩))
   rw[drop_nil hd]at h;cases h
 |y::r,l,n,v,acc,done,hd,hl,ha,hb,hv=>by
  have hlt:=drop_lt hd
  refine Tot.succ ?_
  simp only[e85Lcq]
  cases done with
  |true=>
   refine Tot.ite (fun _=>Tot.ite (fun _=>Tot.pure (drop_idx hd) (Tot.pure (gapp_ok (by simp<;>omega)) ?_)) fun h=>?_) (fun h=>by cases h)
   ·rw[w64_nat v (by omega)]
    refine(tot_put r l n (v+1) (acc++[y]) true (drop_next hd) hl (by simp<;>omega) (fun h=>by cases h) (by omega)).mono fun o ho=>?_
    refine⟨by have:=ho.2.1 rfl;simp at this ⊢ <;> omega,fun _=>by have:=ho.2.1 rfl;simp at this ⊢ <;> omega,fun x=>?_⟩
    rw[ho.2.2 x];simp[or_assoc]
   ·rw[drop_dec hd]at h;cases h
  |false=>
   have hb':=hb rfl
   refine Tot.ite (fun h=>by cases h) (fun _=>Tot.ite (fun _=>Tot.pure (drop_idx hd) (Tot.ite (fun h1=>Tot.ite (fun h2=>Tot.pure (gapp_ok (by simp<;>omega)) (Tot.pure (gapp_ok (by simp<;>omega)) ?_)) fun h2=>Tot.pure (gapp_ok (by simp<;>omega)) ?_) fun h1=>Tot.pure (gapp_ok (by simp<;>omega)) ?_)) fun h=>?_)
   ·rw[w64_nat v (by omega)]
    refine(tot_put r l n (v+1) (acc++[n]++[y]) true (drop_next hd) hl (by simp<;>omega) (fun h=>by cases h) (by omega)).mono fun o ho=>?_
    refine⟨by have:=ho.2.1 rfl;simp at this ⊢ <;> omega,fun h=>(by cases h),fun x=>?_⟩
    rw[ho.2.2 x];simp;grind
   ·rw[w64_nat v (by omega)]
    refine(tot_put r l n (v+1) (acc++[y]) true (drop_next hd) hl (by simp<;>omega) (fun h=>by cases h) (by omega)).mono fun o ho=>?_
    have e:y=n:=by simp at h1 h2;omega
    subst e
    refine⟨by have:=ho.2.1 rfl;simp at this ⊢ <;> omega,fun h=>(by cases h),fun x=>?_⟩
    rw[ho.2.2 x];simp;grind
   ·rw[w64_nat v (by omega)]
    refine(tot_put r l n (v+1) (acc++[y]) false (drop_next hd) hl (by simp<;>omega) (fun _=>by simp<;>omega) (by omega)).mono fun o ho=>?_
    refine⟨by have:=ho.1;simp at this ⊢;omega,fun h=>(by cases h),fun x=>?_⟩
    rw[ho.2.2 x];simp;grind
   ·rw[drop_dec hd]at h;cases h
theorem tot_put0(l:List Int)(n:Int)(hl:l.length≤8192):Tot (fun q=>e85 q l n) fun o=>o.length≤l.length+1∧∀x,x∈o↔x∈l∨x=n:=by
 simp only[e85]
 refine(tot_put l l n 0 [] false rfl hl (by simp) (fun _=>by simp) (by omega)).mono fun o ho=>⟨by have:=ho.1;simpa using this,fun x=>by rw[ho.2.2 x];simp⟩
theorem tot_NumIn{p:Tm}{a b:Int}{v:Nat}{r7:List Int}{Q:List Int->Prop}{N:Nat}{S:Int->Prop}(hN:N≤8192)(hr:r7.length≤8192)(hv:v<9223372036854775807)
  (K:∀acc:List Int,acc.length≤N->(∀x,x∈acc↔S x)->Tot (fun q=>e30Lcr q p a b acc ((v+1:Nat):Int)) Q) :
  ∀(m:List Int) (w:Nat) (acc:List Int),r7.drop w=m->acc.length+m.length≤N->(∀x,(x∈acc∨x∈m)↔S x)->Tot (fun q=>e30Lcs q p a b (v:Int) r7 (w:Int) acc) Q
 | [],w,acc,hd,hl,hm=>by
  refine Tot.succ ?_
  simp only[e30Lcs]
  refine Tot.ite (fun h=>?_) fun _=>?_
  ·rw[drop_nil hd]at h;cases h
  ·rw[w64_nat v (by omega)]
   exact K acc (by simpa using hl) fun x=>by simpa using hm x
 |y::m,w,acc,hd,hl,hm=>by
  have hlt:=drop_lt hd
  refine Tot.succ ?_
  simp only[e30Lcs]
  refine Tot.ite (fun _=>Tot.pure (drop_idx hd) ((tot_put0 acc y (by simp at hl;omega)).bind fun o ho=>?_)) fun h=>?_
  ·rw[w64_nat w (by omega)]
   refine tot_NumIn hN hr hv K m (w+1) o (drop_next hd) (by simp at hl;have:=ho.1;omega) fun x=>?_
   rw[←hm x,ho.2 x];simp[or_assoc]
  ·rw[drop_dec hd]at h;cases h
def Same(r m:List Int):Prop:=∀x,x∈r↔x∈m
mutual
theorem tot_Numbers:∀(t:Tm) (a b:Int),t.Ok->t.nodes≤8192->Tot (fun q=>e30 q t a b) fun o=>o.length≤t.nodes∧Same o (colT t a b)
 | .mk k n l,a,b,ho,hn=>by
  refine Tot.succ ?_
  simp only[e30,Tm.k,Tm.n]
  rw[Tm.nodes]at hn
  have key:∀acc:List Int,acc.length≤1->acc=(if k=a∨k=b then [n]else [])->Tot (fun q=>e30Lcr q (.mk k n l) a b acc 0) fun o=>o.length≤(Tm.mk k n l).nodes∧Same o (colT (.mk k n l) a b):=by
   intro acc h1 h2
   refine(tot_NumbersL l (.mk k n l) 0 a b acc rfl ho.1 ho.2 (by omega)).mono fun o ho=>⟨by rw[Tm.nodes];have:=ho.1;omega,fun x=>?_⟩
   rw[ho.2 x,colT,h2];simp
  refine Tot.ite (fun h=>Tot.pure (gapp_ok (by simp)) ?_) fun h=>Tot.ite (fun h'=>Tot.pure (gapp_ok (by simp)) ?_) fun h'=>?_
  ·exact key _ (by simp) (by rw[if_pos (.inl (by simpa using h))];rfl)
  ·exact key _ (by simp) (by rw[if_pos (.inr (by simpa using h'))];rfl)
  ·exact key _ (by simp) (by rw[if_neg (by simp at h h';simp[h,h'])])
theorem tot_NumbersL:∀(l:List Tm) (p:Tm) (v:Nat) (a b:Int) (acc:List Int),p.sub.drop v=l->p.sub.length<9223372036854775808->OkL l->acc.length+nodesL l≤8192 ->
  Tot (fun q=>e30Lcr q p a b acc (v:Int)) fun o=>o.length≤acc.length+nodesL l∧∀x,x∈o↔x∈acc∨x∈colL l a b
 | [],p,v,a,b,acc,hd,hl,ho,hn=>by
  refine Tot.succ ?_
  simp only[e30Lcr]
  refine Tot.ite (fun h=>?_) fun _=>Tot.ret ⟨by omega,fun x=>by rw[colL];simp⟩
  rw[drop_nil hd]at h;cases h
 |t::l,p,v,a,b,acc,hd,hl,ho,hn=>by
  have hlt:=drop_lt hd
  rw[nodesL]at hn
  have IH:=fun acc' h=>tot_NumbersL l p (v+1) a b acc' (drop_next hd) hl ho.2 h
  refine Tot.succ ?_
  simp only[e30Lcr]
  refine Tot.ite (fun _=>Tot.pure (drop_idx hd) ((tot_Numbers t a b ho.1 (by omega)).bind fun r7 hr=>?_)) fun h=>?_
  ·refine tot_NumIn (N:=acc.length+t.nodes) (S:=fun x=>x∈acc∨x∈colT t a b) (by omega) (by have:=hr.1;omega) (by omega) (fun acc' h1 h2=>?_) r7 0 acc rfl (by have:=hr.1;omega) fun x=>by rw[hr.2 x]
   refine(IH acc' (by omega)).mono fun o ho=>⟨by rw[nodesL];have:=ho.1;omega,fun x=>?_⟩
   rw[ho.2 x,h2 x,colL];simp[or_assoc]
  ·rw[drop_dec hd]at h;cases h
end
theorem ev_all:∀(r l:List Int) (n:Int) (v:Nat),l.drop v=r->l.length≤8192->Evt (fun q=>e168Lct q n l (v:Int)) (r.all fun x=>decide (x<n))
 | [],l,n,v,hd,hl=>by
  refine Evt.succ ?_
  simp only[e168Lct]
  exact Evt.ifF (drop_nil hd) Evt.ret
 |y::r,l,n,v,hd,hl=>by
  have hlt:=drop_lt hd
  refine Evt.succ ?_
  simp only[e168Lct]
  refine Evt.ifT (drop_dec hd) (Evt.pure (drop_idx hd) ?_)
  by_cases h:y≥n
  ·exact Evt.ifT (by simpa using h) (Evt.ret.eq (by simp<;>omega))
  ·refine Evt.ifF (by simpa using h) ?_
   rw[w64_nat v (by omega)]
   refine(ev_all r l n (v+1) (drop_next hd) hl).eq ?_
   simp[show y<n by omega]
theorem all_same{r m:List Int}(h:Same r m)(n:Int):(r.all fun x=>decide (x<n))=m.all fun x=>decide (x<n):=by
 rw[Bool.eq_iff_iff]
 simp only[List.all_eq_true]
 exact⟨fun k x hx=>k x ((h x).2 hx),fun k x hx=>k x ((h x).1 hx)⟩
theorem ev_rRight(t:Tm)(f n:Int)(ho:t.Ok):Evt (fun q=>e168 q t f n) (rightT t f n):=by
 simp only[e168]
 refine(ev_rShaped t ho).bind ?_
 unfold rightT
 by_cases h:shapedT t=true
 ·have hs:=shapedT_spec h
  refine Evt.ifT h ((ev_rLoose t 0 hs.2.2 (by omega) (by omega)).bind ?_)
  rw[h]
  by_cases h2:looT t 0>f
  ·exact Evt.ifT (by simpa using h2) (Evt.ret.eq (by simp<;>omega))
  ·obtain⟨r,h3,h4,h5⟩:=tot_Numbers t 6 7 ho hs.1
   refine Evt.ifF (by simpa using h2) (h3.bind ((ev_all r r n 0 rfl (by omega)).eq ?_))
   rw[all_same h5,show decide (looT t 0≤f)=true by simp<;>omega];simp
 ·exact Evt.ifF (by simpa using h) (Evt.ret.eq (by simp[h]))
def closedT(t:Tm)(n:Int):Bool:=rightT t 0 n&&(colT t 8 8).isEmpty
theorem rightT_shaped{t:Tm}{f n:Int}(h:rightT t f n=true):shapedT t=true:=by
 unfold rightT at h;simp at h;exact h.1.1
theorem ev_rClosed(t:Tm)(n:Int)(ho:t.Ok):Evt (fun q=>e116 q t n) (closedT t n):=by
 simp only[e116]
 refine(ev_rRight t 0 n ho).bind ?_
 unfold closedT
 by_cases h:rightT t 0 n=true
 ·have hs:=shapedT_spec (rightT_shaped h)
  obtain⟨r,h3,h4,h5⟩:=tot_Numbers t 8 8 ho hs.1
  refine Evt.ifT h (h3.bind (Evt.ret.eq ?_))
  rw[h,Bool.true_and,Bool.eq_iff_iff]
  simp only[beq_iff_eq,List.isEmpty_iff]
  constructor
  ·intro h6
   have h6':r=[]:=List.length_eq_zero_iff.1 (by omega)
   refine List.eq_nil_iff_forall_not_mem.2 fun x hx=>?_
   rw[←h5 x,h6']at hx;cases hx
  ·intro h6
   have:r=[]:=List.eq_nil_iff_forall_not_mem.2 fun x hx=>by rw[h5 x,h6]at hx;cases hx
   rw[this];rfl
 ·exact Evt.ifF (by simpa using h) (Evt.ret.eq (by simp[h]))
def e207(qq:Nat)(p0:Tm):Option (Bool):=
 if p0.k==0 then
 if p0.n==0 then
 some ((List.length p0.sub:Int)==0)
 else
 some false
 else
 some false
abbrev K207 (p0:Tm) (r:Bool) (C:Cf):Prop:=C 207 [] [tmA p0] (ab r) [] 0
theorem q207:Qf 207 Tryz.f207:=⟨Tryz.func207,by kernel_rfl⟩
theorem k207{p0 r}(h:K207 p0 r Ci):K207 p0 r Ct:=⟨h,⟨⟨tv,tv,⟨tv,dT _⟩,tv⟩,tv⟩,forall_nil,tv,forall_nil⟩
theorem c207{qq p0 r}(h:e207 qq p0=some r):K207 p0 r Ct:=by
 unfold e207 at h
 rcases spl h with⟨h1,h⟩|⟨h1,h⟩
 have k:=oB 1 h1 o0
 rcases spl h with⟨h2,h⟩|⟨h2,h⟩
 obtain rfl:=sj h
 exact k207 (tF q207 3 [] (oB 1 h2 k))
 obtain rfl:=sj h
 exact k207 (tF q207 0 [] (oB 1 h2 k))
 obtain rfl:=sj h
 exact k207 (tF q207 0 [] (oB 1 h1 o0))
def e208Lcu:Nat->Int->(List Tm)->Int->Int->Int->(List Tm)->Option (List Tm×Tm×Int)
 |0,_,_,_,_,_,_=>none
 |qq+1,p1,v7,v8,vb0_0,vb0_1,vb0_2=>
 if decide (v8<p1)then
 if vb0_0 != 3 then
 some ([],(Tm.mk 0 0 []),6)
 else
 gidx vb0_2 0>>=fun x8=>
 gapp 40 v7 [x8]>>=fun l10=>
 gidx vb0_2 1>>=fun x12=>
 e208Lcu qq p1 l10 (w64 (v8+1)) x12.k x12.n x12.sub
 else
 some (v7,(Tm.mk vb0_0 vb0_1 vb0_2),0)
def e208(qq:Nat)(p0:Tm)(p1:Int):Option (List Tm×Tm×Int):=
 e18 qq p0>>=fun r1=>
 if r1 then
 if decide (p1<0)then
 some ([],(Tm.mk 0 0 []),5)
 else
 if decide (p1>24)then
 some ([],(Tm.mk 0 0 []),2)
 else
 e208Lcu qq p1 [] 0 p0.k p0.n p0.sub
 else
 some ([],(Tm.mk 0 0 []),5)
def g208LcuE0(j:Nat->Value)(p1:Int)(v7:List Tm)(v8 vb0_0 vb0_1:Int)(vb0_2:List Tm):=sp j 43 0 [(1,ai p1),(2,.mp 0 0),(5,.mp 1 0),(7,slv tmCells v7 (.st 0 3)),(8,ai v8)]
def g208LcuS0(p1:Int)(v7:List Tm)(v8 vb0_0 vb0_1:Int)(vb0_2:List Tm):LSt:=⟨[(0,.cells [ai vb0_0,ai vb0_1,slv tmCells vb0_2 .no]),(1,.cells [ai 0,ai 0,slv tmCells ([]:List Tm) .nl])],2,[0],1,[]⟩
abbrev K208 (p0:Tm) (p1:Int) (r:List Tm×Tm×Int) (C:Cf):Prop:=C 208 [] [tmA p0,ai p1] (.tup [.sl (flat tmCells r.1) (List.length r.1) .no,tmA r.2.1,ai r.2.2]) [] 0
theorem q208:Qf 208 Tryz.f208:=⟨Tryz.func208,by kernel_rfl⟩
theorem k208{p0 p1 r}(h:K208 p0 p1 r Ci):K208 p0 p1 r Ct:=⟨h,⟨⟨tv,tv,⟨tv,dT _⟩,tv⟩,tv,tv⟩,forall_nil,⟨dT _,⟨tv,tv,dT _,tv⟩,tv,tv⟩,forall_nil⟩
theorem l208Lcu:∀qq:Nat,(∀p1 v7 v8 vb0_0 vb0_1 vb0_2 r,e208Lcu qq p1 v7 v8 vb0_0 vb0_1 vb0_2=some r->(∀j,Dl Tryz.prog 0 (inn (inn (rgt (lft (rgt (rgt (rgt (rgt (bod Tryz.f208))))))))) (g208LcuE0 j p1 v7 v8 vb0_0 vb0_1 vb0_2) (g208LcuS0 p1 v7 v8 vb0_0 vb0_1 vb0_2) (frameQ Tryz.prog 0 (FinQ Tryz.prog 0 Tryz.f208 (.tup [.sl (flat tmCells r.1) (List.length r.1) .no,tmA r.2.1,ai r.2.2]) [] 0) [.blk 0,.seq (rgt (rgt (rgt (rgt (rgt (bod Tryz.f208))))))]))):=by
 intro qq
 induction qq with
 |zero=>
  exact fun _ _ _ _ _ _ _ h=>nn h
 |succ qq ih=>
  intro p1 v7 v8 vb0_0 vb0_1 vb0_2 r h
  rw[e208Lcu]at h
  rcases spl h with⟨h6,h⟩|⟨h6,h⟩
  have k:=oB 0 h6 o0
  rcases spl h with⟨h7,h⟩|⟨h7,h⟩
  obtain rfl:=sj h
  exact fun j=>lF 1 [] (oD (dT ([]:List Tm))<|oD (dT ([]:List Tm))<|oB 1 h7 k)
  obtain⟨x8,h9,h⟩:=obind h
  obtain⟨l10,h11,h⟩:=obind h
  obtain⟨x12,h13,h⟩:=obind h
  exact fun j=>lH 3 [] [0,1] [1] [1,2,5,7,8] (oD (dT l10)<|oD (dT ([]:List Tm))<|oD (dT x12.sub)<|oA 1 (ix23 (o:=.no) h13)<|oP 0 (apS23 h11 (by simp))<|oS 1 (obLitR tm_eq [x8])<|oA 1 (ix23 (o:=.no) h9)<|oB 1 h7 k) (ih _ _ _ _ _ _ _ h)
  obtain rfl:=sj h
  exact fun j=>lF 2 [] (oD (dT vb0_2)<|oD (dT v7)<|oB 0 h6 o0)
theorem c208{qq p0 p1 r}(h:e208 qq p0 p1=some r):K208 p0 p1 r Ct:=by
 unfold e208 at h
 obtain⟨r1,h2,h⟩:=obind h
 rcases spl h with⟨h3,h⟩|⟨h3,h⟩
 have k:=oK 1 [] h3 (c18 h2) o0
 rcases spl h with⟨h4,h⟩|⟨h4,h⟩
 obtain rfl:=sj h
 exact k208 (tF q208 1 [] (oD (dT ([]:List Tm))<|oD (dT ([]:List Tm))<|oB 1 h4 k))
 have k:=oB 1 h4 k
 rcases spl h with⟨h5,h⟩|⟨h5,h⟩
 obtain rfl:=sj h
 exact k208 (tF q208 1 [] (oD (dT ([]:List Tm))<|oD (dT ([]:List Tm))<|oB 0 h5 k))
 exact k208 (tH q208 1 [(none,7,3)] [0,1] [0] [1,2,5,7,8] (oD (dT ([]:List Tm))<|oD (dT ([]:List Tm))<|oD (dT p0.sub)<|oB 0 h5 k) (l208Lcu _ _ _ _ _ _ _ _ h))
 obtain rfl:=sj h
 exact k208 (tF q208 2 [] (oD (dT ([]:List Tm))<|oD (dT ([]:List Tm))<|oK 1 [] h3 (c18 h2) o0))
def e77(qq:Nat)(p0:List Ent)(p1 p2:Int):Option (Bool):=
 if decide (p1≥0)then
 if decide (p1<(List.length p0:Int))then
 gidx p0 p1>>=fun x3=>
 some (x3.kind==p2)
 else
 some false
 else
 some false
abbrev K77 (p0:List Ent) (p1 p2:Int) (r:Bool) (C:Cf):Prop:=C 77 [] [slv entL p0 .no,ai p1,ai p2] (ab r) [] 0
theorem q77:Qf 77 Tryz.f77:=⟨Tryz.func77,by kernel_rfl⟩
theorem k77{p0 p1 p2 r}(h:K77 p0 p1 p2 r Ci):K77 p0 p1 p2 r Ct:=⟨h,⟨⟨tv,dE _⟩,tv,tv,tv⟩,forall_nil,tv,forall_nil⟩
theorem c77{qq p0 p1 p2 r}(h:e77 qq p0 p1 p2=some r):K77 p0 p1 p2 r Ct:=by
 unfold e77 at h
 rcases spl h with⟨h1,h⟩|⟨h1,h⟩
 have k:=oB 0 h1 o0
 rcases spl h with⟨h2,h⟩|⟨h2,h⟩
 obtain⟨x3,h4,h⟩:=obind h
 obtain rfl:=sj h
 exact k77 (tF q77 2 [] (oA 0 (ix22 (o:=.no) h4)<|oB 1 h2 k))
 obtain rfl:=sj h
 exact k77 (tF q77 0 [] (oB 1 h2 k))
 obtain rfl:=sj h
 exact k77 (tF q77 0 [] (oB 0 h1 o0))
def e209Lcv:Nat->(List Ent)->(List Int)->Int->Int->Int->Int->Option (Bool)
 |0,_,_,_,_,_,_=>none
 |qq+1,p0,p1,p2,p3,p4,v11=>
 if decide (v11<(List.length p1:Int))then
 gidx p1 v11>>=fun x2=>
 if x2 != (w64 (p2+v11))then
 some false
 else
 e77 qq p0 x2 p4>>=fun r5=>
 if r5 then
 gidx p0 x2>>=fun x8=>
 if x8.fam != p3 then
 some false
 else
 if x8.place != v11 then
 some false
 else
 e209Lcv qq p0 p1 p2 p3 p4 (w64 (v11+1))
 else
 some false
 else
 some true
def e209(qq:Nat)(p0:List Ent)(p1:List Int)(p2 p3 p4:Int):Option (Bool):=
 e209Lcv qq p0 p1 p2 p3 p4 0
def g209LcvE0(j:Nat->Value)(p0:List Ent)(p1:List Int)(p2 p3 p4 v11:Int):=sp j 60 0 [(0,slv entL p0 .no),(1,slv intC p1 .no),(2,ai p2),(3,ai p3),(4,ai p4),(11,ai v11)]
def g209LcvS0(p0:List Ent)(p1:List Int)(p2 p3 p4 v11:Int):LSt:=⟨[],0,[],0,[]⟩
abbrev K209 (p0:List Ent) (p1:List Int) (p2 p3 p4:Int) (r:Bool) (C:Cf):Prop:=C 209 [] [slv entL p0 .no,slv intC p1 .no,ai p2,ai p3,ai p4] (ab r) [] 0
theorem q209:Qf 209 Tryz.f209:=⟨Tryz.func209,by kernel_rfl⟩
theorem k209{p0 p1 p2 p3 p4 r}(h:K209 p0 p1 p2 p3 p4 r Ci):K209 p0 p1 p2 p3 p4 r Ct:=⟨h,⟨⟨tv,dE _⟩,⟨tv,dI _⟩,tv,tv,tv,tv⟩,forall_nil,tv,forall_nil⟩
theorem l209Lcv:∀qq:Nat,(∀p0 p1 p2 p3 p4 v11 r,e209Lcv qq p0 p1 p2 p3 p4 v11=some r->(∀j,Dl Tryz.prog 0 (inn (inn (rgt (lft (rgt (bod Tryz.f209)))))) (g209LcvE0 j p0 p1 p2 p3 p4 v11) (g209LcvS0 p0 p1 p2 p3 p4 v11) (frameQ Tryz.prog 0 (FinQ Tryz.prog 0 Tryz.f209 (ab r) [] 0) [.blk 0,.seq (rgt (rgt (bod Tryz.f209)))]))):=by
 intro qq
 induction qq with
 |zero=>
  exact fun _ _ _ _ _ _ _ h=>nn h
 |succ qq ih=>
  intro p0 p1 p2 p3 p4 v11 r h
  rw[e209Lcv]at h
  rcases spl h with⟨h1,h⟩|⟨h1,h⟩
  obtain⟨x2,h3,h⟩:=obind h
  have k:=oA 0 (ix41 (o:=.no) h3)<|oB 1 h1 o0
  rcases spl h with⟨h4,h⟩|⟨h4,h⟩
  obtain rfl:=sj h
  exact fun j=>lF 0 [] (oB 2 h4 k)
  obtain⟨r5,h6,h⟩:=obind h
  have k:=oA 0 (ix41 (o:=.no) h3)<|oB 2 h4 k
  rcases spl h with⟨h7,h⟩|⟨h7,h⟩
  obtain⟨x8,h9,h⟩:=obind h
  have k:=oA 1 (ix22 (o:=.no) h9)<|oA 1 (ix41 (o:=.no) h3)<|oK 1 [] h7 (c77 h6) k
  rcases spl h with⟨h10,h⟩|⟨h10,h⟩
  obtain rfl:=sj h
  exact fun j=>lF 0 [] (oB 1 h10 k)
  have k:=oA 1 (ix22 (o:=.no) h9)<|oA 0 (ix41 (o:=.no) h3)<|oB 1 h10 k
  rcases spl h with⟨h11,h⟩|⟨h11,h⟩
  obtain rfl:=sj h
  exact fun j=>lF 0 [] (oB 1 h11 k)
  exact fun j=>lH 1 [] [] [] [0,1,2,3,4,11] (oD (dI p1)<|oD (dE p0)<|oB 1 h11 k) (ih _ _ _ _ _ _ _ h)
  obtain rfl:=sj h
  exact fun j=>lF 1 [] (oK 1 [] h7 (c77 h6) k)
  obtain rfl:=sj h
  exact fun j=>lF 0 [] (oB 1 h1 o0)
theorem c209{qq p0 p1 p2 p3 p4 r}(h:e209 qq p0 p1 p2 p3 p4=some r):K209 p0 p1 p2 p3 p4 r Ct:=by
 unfold e209 at h
 exact k209 (tH q209 0 [] [] [] [0,1,2,3,4,11] (oD (dI p1)<|oD (dE p0) o0) (l209Lcv _ _ _ _ _ _ _ _ h))
def e76Lcw:Nat->Int->Int->(List Tm)->Option (Tm)
 |0,_,_,_=>none
 |qq+1,vb0_0,vb0_1,vb0_2=>
 if vb0_0==5 then
 gidx vb0_2 0>>=fun x2=>
 e76Lcw qq x2.k x2.n x2.sub
 else
 some (Tm.mk vb0_0 vb0_1 vb0_2)
def e76(qq:Nat)(p0:Tm):Option (Tm):=
 e76Lcw qq p0.k p0.n p0.sub
def g76LcwE0(j:Nat->Value)(vb0_0 vb0_1:Int)(vb0_2:List Tm):=sp j 11 0 [(1,.mp 0 0),(2,.mp 1 0)]
def g76LcwS0(vb0_0 vb0_1:Int)(vb0_2:List Tm):LSt:=⟨[(0,.cells [ai vb0_0,ai vb0_1,slv tmCells vb0_2 .no]),(1,.cells [ai 0,ai 0,slv tmCells ([]:List Tm) .nl])],2,[],0,[]⟩
abbrev K76 (p0 r:Tm) (C:Cf):Prop:=C 76 [] [tmA p0] (tmA r) [] 0
theorem q76:Qf 76 Tryz.f76:=⟨Tryz.func76,by kernel_rfl⟩
theorem k76{p0 r}(h:K76 p0 r Ci):K76 p0 r Ct:=⟨h,⟨⟨tv,tv,⟨tv,dT _⟩,tv⟩,tv⟩,forall_nil,⟨tv,tv,dT _,tv⟩,forall_nil⟩
theorem l76Lcw:∀qq:Nat,(∀vb0_0 vb0_1 vb0_2 r,e76Lcw qq vb0_0 vb0_1 vb0_2=some r->(∀j,Dl Tryz.prog 0 (inn (inn (lft (rgt (bod Tryz.f76))))) (g76LcwE0 j vb0_0 vb0_1 vb0_2) (g76LcwS0 vb0_0 vb0_1 vb0_2) (frameQ Tryz.prog 0 (FinQ Tryz.prog 0 Tryz.f76 (tmA r) [] 0) [.blk 0,.seq (rgt (rgt (bod Tryz.f76)))]))):=by
 intro qq
 induction qq with
 |zero=>
  exact fun _ _ _ _ h=>nn h
 |succ qq ih=>
  intro vb0_0 vb0_1 vb0_2 r h
  rw[e76Lcw]at h
  rcases spl h with⟨h1,h⟩|⟨h1,h⟩
  obtain⟨x2,h3,h⟩:=obind h
  exact fun j=>lH 2 [] [0,1] [] [1,2] (oD (dT ([]:List Tm))<|oD (dT x2.sub)<|oA 1 (ix23 (o:=.no) h3)<|oB 1 h1 o0) (ih _ _ _ _ h)
  obtain rfl:=sj h
  exact fun j=>lF 2 [] (oD (dT vb0_2)<|oB 1 h1 o0)
theorem c76{qq p0 r}(h:e76 qq p0=some r):K76 p0 r Ct:=by
 unfold e76 at h
 exact k76 (tH q76 0 [] [0,1] [] [1,2] (oD (dT ([]:List Tm))<|oD (dT p0.sub) o0) (l76Lcw _ _ _ _ _ h))
def e78:Nat->Tm->Option (List Tm)
 |0,_=>none
 |qq+1,p0=>
 if p0.k != 5 then
 some []
 else
 gidx p0.sub 0>>=fun x2=>
 e78 qq x2>>=fun r4=>
 gidx p0.sub 1>>=fun x6=>
 gapp 40 r4 [x6]>>=fun l8=>
 some l8
abbrev K78 (p0:Tm) (r:List Tm) (C:Cf):Prop:=C 78 [] [tmA p0] (slv tmCells r (.st 0 3)) [] 1
theorem q78:Qf 78 Tryz.f78:=⟨Tryz.func78,by kernel_rfl⟩
theorem k78{p0 r}(h:K78 p0 r Ci):K78 p0 r Ct:=⟨h,⟨⟨tv,tv,⟨tv,dT _⟩,tv⟩,tv⟩,forall_nil,dT _,forall_nil⟩
theorem a78:∀qq:Nat,(∀p0 r,e78 qq p0=some r->K78 p0 r Ct):=by
 intro qq
 induction qq with
 |zero=>
  exact fun _ _ h=>nn h
 |succ qq ih=>
  intro p0 r h
  rw[e78]at h
  rcases spl h with⟨h1,h⟩|⟨h1,h⟩
  obtain rfl:=sj h
  exact k78 (tG q78 1 [(none,2,3)] [] [0] true (oD (dT ([]:List Tm))<|oB 1 h1 o0))
  obtain⟨x2,h3,h⟩:=obind h
  obtain⟨r4,h5,h⟩:=obind h
  obtain⟨x6,h7,h⟩:=obind h
  obtain⟨l8,h9,h⟩:=obind h
  obtain rfl:=sj h
  exact k78 (tG q78 0 [] [] [1] true (oD (dT l8)<|oP 0 (apS23 h9 (by simp))<|oS 1 (obLitR tm_eq [x6])<|oA 1 (ix23 (o:=.no) h7)<|oC 1 [] (ih _ _ h5)<|oA 1 (ix23 (o:=.no) h3)<|oB 1 h1 o0))
theorem c78{qq p0 r}(h:e78 qq p0=some r):K78 p0 r Ct:=a78 _ _ _ h
def e79Lcx:Nat->(List Tm)->Int->Int->(List Tm)->Option (List Tm)
 |0,_,_,_,_=>none
 |qq+1,v3,vb0_0,vb0_1,vb0_2=>
 if vb0_0==3 then
 gidx vb0_2 0>>=fun x2=>
 gapp 40 v3 [x2]>>=fun l4=>
 gidx vb0_2 1>>=fun x6=>
 e79Lcx qq l4 x6.k x6.n x6.sub
 else
 some v3
def e79(qq:Nat)(p0:Tm):Option (List Tm):=
 e79Lcx qq [] p0.k p0.n p0.sub
def g79LcxE0(j:Nat->Value)(v3:List Tm)(vb0_0 vb0_1:Int)(vb0_2:List Tm):=sp j 20 0 [(1,.mp 0 0),(3,slv tmCells v3 (.st 0 3))]
def g79LcxS0(v3:List Tm)(vb0_0 vb0_1:Int)(vb0_2:List Tm):LSt:=⟨[(0,.cells [ai vb0_0,ai vb0_1,slv tmCells vb0_2 .no])],1,[0],1,[]⟩
abbrev K79 (p0:Tm) (r:List Tm) (C:Cf):Prop:=C 79 [] [tmA p0] (.sl (flat tmCells r) (List.length r) .no) [] 0
theorem q79:Qf 79 Tryz.f79:=⟨Tryz.func79,by kernel_rfl⟩
theorem k79{p0 r}(h:K79 p0 r Ci):K79 p0 r Ct:=⟨h,⟨⟨tv,tv,⟨tv,dT _⟩,tv⟩,tv⟩,forall_nil,dT _,forall_nil⟩
theorem l79Lcx:∀qq:Nat,(∀v3 vb0_0 vb0_1 vb0_2 r,e79Lcx qq v3 vb0_0 vb0_1 vb0_2=some r->(∀j,Dl Tryz.prog 0 (inn (inn (lft (rgt (rgt (bod Tryz.f79)))))) (g79LcxE0 j v3 vb0_0 vb0_1 vb0_2) (g79LcxS0 v3 vb0_0 vb0_1 vb0_2) (frameQ Tryz.prog 0 (FinQ Tryz.prog 0 Tryz.f79 (.sl (flat tmCells r) (List.length r) .no) [] 0) [.blk 0,.seq (rgt (rgt (rgt (bod Tryz.f79))))]))):=by
 intro qq
 induction qq with
 |zero=>
  exact fun _ _ _ _ _ h=>nn h
 |succ qq ih=>
  intro v3 vb0_0 vb0_1 vb0_2 r h
  rw[e79Lcx]at h
  rcases spl h with⟨h1,h⟩|⟨h1,h⟩
  obtain⟨x2,h3,h⟩:=obind h
  obtain⟨l4,h5,h⟩:=obind h
  obtain⟨x6,h7,h⟩:=obind h
  exact fun j=>lH 2 [] [0] [1] [1,3] (oD (dT l4)<|oD (dT x6.sub)<|oA 1 (ix23 (o:=.no) h7)<|oP 0 (apS23 h5 (by simp))<|oS 1 (obLitR tm_eq [x2])<|oA 1 (ix23 (o:=.no) h3)<|oB 1 h1 o0) (ih _ _ _ _ _ h)
  obtain rfl:=sj h
  exact fun j=>lF 0 [] (oD (dT v3)<|oB 1 h1 o0)
theorem c79{qq p0 r}(h:e79 qq p0=some r):K79 p0 r Ct:=by
 unfold e79 at h
 exact k79 (tH q79 1 [(none,3,3)] [0] [0] [1,3] (oD (dT ([]:List Tm))<|oD (dT p0.sub) o0) (l79Lcx _ _ _ _ _ _ h))
def e86Lcy:Nat->Int->Int->(List Tm)->Option (Tm)
 |0,_,_,_=>none
 |qq+1,vb0_0,vb0_1,vb0_2=>
 if vb0_0==3 then
 gidx vb0_2 1>>=fun x2=>
 e86Lcy qq x2.k x2.n x2.sub
 else
 some (Tm.mk vb0_0 vb0_1 vb0_2)
def e86(qq:Nat)(p0:Tm):Option (Tm):=
 e86Lcy qq p0.k p0.n p0.sub
def g86LcyE0(j:Nat->Value)(vb0_0 vb0_1:Int)(vb0_2:List Tm):=sp j 11 0 [(1,.mp 0 0),(2,.mp 1 0)]
def g86LcyS0(vb0_0 vb0_1:Int)(vb0_2:List Tm):LSt:=⟨[(0,.cells [ai vb0_0,ai vb0_1,slv tmCells vb0_2 .no]),(1,.cells [ai 0,ai 0,slv tmCells ([]:List Tm) .nl])],2,[],0,[]⟩
abbrev K86 (p0 r:Tm) (C:Cf):Prop:=C 86 [] [tmA p0] (tmA r) [] 0
theorem q86:Qf 86 Tryz.f86:=⟨Tryz.func86,by kernel_rfl⟩
theorem k86{p0 r}(h:K86 p0 r Ci):K86 p0 r Ct:=⟨h,⟨⟨tv,tv,⟨tv,dT _⟩,tv⟩,tv⟩,forall_nil,⟨tv,tv,dT _,tv⟩,forall_nil⟩
theorem l86Lcy:∀qq:Nat,(∀vb0_0 vb0_1 vb0_2 r,e86Lcy qq vb0_0 vb0_1 vb0_2=some r->(∀j,Dl Tryz.prog 0 (inn (inn (lft (rgt (bod Tryz.f86))))) (g86LcyE0 j vb0_0 vb0_1 vb0_2) (g86LcyS0 vb0_0 vb0_1 vb0_2) (frameQ Tryz.prog 0 (FinQ Tryz.prog 0 Tryz.f86 (tmA r) [] 0) [.blk 0,.seq (rgt (rgt (bod Tryz.f86)))]))):=by
 intro qq
 induction qq with
 |zero=>
  exact fun _ _ _ _ h=>nn h
 |succ qq ih=>
  intro vb0_0 vb0_1 vb0_2 r h
  rw[e86Lcy]at h
  rcases spl h with⟨h1,h⟩|⟨h1,h⟩
  obtain⟨x2,h3,h⟩:=obind h
  exact fun j=>lH 2 [] [0,1] [] [1,2] (oD (dT ([]:List Tm))<|oD (dT x2.sub)<|oA 1 (ix23 (o:=.no) h3)<|oB 1 h1 o0) (ih _ _ _ _ h)
  obtain rfl:=sj h
  exact fun j=>lF 2 [] (oD (dT vb0_2)<|oB 1 h1 o0)
theorem c86{qq p0 r}(h:e86 qq p0=some r):K86 p0 r Ct:=by
 unfold e86 at h
 exact k86 (tH q86 0 [] [0,1] [] [1,2] (oD (dT ([]:List Tm))<|oD (dT p0.sub) o0) (l86Lcy _ _ _ _ _ h))
def e87Lcz:Nat->Int->Int->(List Tm)->Int->Option (Bool)
 |0,_,_,_,_=>none
 |qq+1,p2,p4,r1,v13=>
 if decide (v13<p2)then
 gidx r1 v13>>=fun x9=>
 if x9.k != 1 then
 some false
 else
 if x9.n != (w64 ((w64 (p4-1))-v13))then
 some false
 else
 e87Lcz qq p2 p4 r1 (w64 (v13+1))
 else
 some true
def e87(qq:Nat)(p0:Tm)(p1 p2 p3 p4:Int):Option (Bool):=
 e78 qq p0>>=fun r1=>
 e76 qq p0>>=fun r3=>
 if r3.k != 6 then
 some false
 else
 if r3.n != p1 then
 some false
 else
 if (List.length r1:Int) != (w64 (p2+p3))then
 some false
 else
 e87Lcz qq p2 p4 r1 0
def g87LczE0(j:Nat->Value)(p2 p4:Int)(r1:List Tm)(v13:Int):=sp j 58 0 [(2,ai p2),(4,ai p4),(11,slv tmCells r1 (.st 0 3)),(13,ai v13)]
def g87LczS0(p2 p4:Int)(r1:List Tm)(v13:Int):LSt:=⟨[],0,[0],1,[]⟩
abbrev K87 (p0:Tm) (p1 p2 p3 p4:Int) (r:Bool) (C:Cf):Prop:=C 87 [] [tmA p0,ai p1,ai p2,ai p3,ai p4] (ab r) [] 0
theorem q87:Qf 87 Tryz.f87:=⟨Tryz.func87,by kernel_rfl⟩
theorem k87{p0 p1 p2 p3 p4 r}(h:K87 p0 p1 p2 p3 p4 r Ci):K87 p0 p1 p2 p3 p4 r Ct:=⟨h,⟨⟨tv,tv,⟨tv,dT _⟩,tv⟩,tv,tv,tv,tv,tv⟩,forall_nil,tv,forall_nil⟩
theorem l87Lcz:∀qq:Nat,(∀p2 p4 r1 v13 r,e87Lcz qq p2 p4 r1 v13=some r->(∀j,Dl Tryz.prog 0 (inn (inn (rgt (lft (rgt (rgt (rgt (rgt (bod Tryz.f87))))))))) (g87LczE0 j p2 p4 r1 v13) (g87LczS0 p2 p4 r1 v13) (frameQ Tryz.prog 0 (FinQ Tryz.prog 0 Tryz.f87 (ab r) [] 0) [.blk 0,.seq (rgt (rgt (rgt (rgt (rgt (bod Tryz.f87))))))]))):=by
 intro qq
 induction qq with
 |zero=>
  exact fun _ _ _ _ _ h=>nn h
 |succ qq ih=>
  intro p2 p4 r1 v13 r h
  rw[e87Lcz]at h
  rcases spl h with⟨h8,h⟩|⟨h8,h⟩
  obtain⟨x9,h10,h⟩:=obind h
  have k:=oA 0 (ix23 (o:=(.st 0 3)) h10)<|oB 0 h8 o0
  rcases spl h with⟨h11,h⟩|⟨h11,h⟩
  obtain rfl:=sj h
  exact fun j=>lF 0 [] (oB 1 h11 k)
  have k:=oA 0 (ix23 (o:=(.st 0 3)) h10)<|oB 1 h11 k
  rcases spl h with⟨h12,h⟩|⟨h12,h⟩
  obtain rfl:=sj h
  exact fun j=>lF 0 [] (oB 3 h12 k)
  exact fun j=>lH 1 [] [] [0] [2,4,11,13] (oD (dT r1)<|oB 3 h12 k) (ih _ _ _ _ _ h)
  obtain rfl:=sj h
  exact fun j=>lF 0 [] (oB 0 h8 o0)
theorem c87{qq p0 p1 p2 p3 p4 r}(h:e87 qq p0 p1 p2 p3 p4=some r):K87 p0 p1 p2 p3 p4 r Ct:=by
 unfold e87 at h
 obtain⟨r1,h2,h⟩:=obind h
 obtain⟨r3,h4,h⟩:=obind h
 have k:=oC 1 [] (c76 h4)<|oC 1 [] (c78 h2) o0
 rcases spl h with⟨h5,h⟩|⟨h5,h⟩
 obtain rfl:=sj h
 exact k87 (tF q87 0 [] (oB 2 h5 k))
 have k:=oB 2 h5 k
 rcases spl h with⟨h6,h⟩|⟨h6,h⟩
 obtain rfl:=sj h
 exact k87 (tF q87 0 [] (oB 1 h6 k))
 have k:=oB 1 h6 k
 rcases spl h with⟨h7,h⟩|⟨h7,h⟩
 obtain rfl:=sj h
 exact k87 (tF q87 0 [] (oB 2 h7 k))
 exact k87 (tH q87 0 [] [] [0] [2,4,11,13] (oD (dT r1)<|oB 2 h7 k) (l87Lcz _ _ _ _ _ _ h))
def Dc(f:Nat->Option Bool)(P:Prop):Prop:=∃b,Evt f b∧(b=true↔P)
section
variable {f g:Nat->Option Bool} {P Q:Prop} {α:Type}
theorem Dc.ret{b:Bool}(h:b=true↔P):Dc (fun _=>some b) P:=⟨b,Evt.ret,h⟩
theorem Dc.yes(h:P):Dc (fun _=>some true) P:=⟨true,Evt.ret,⟨fun _=>h,fun _=>rfl⟩⟩
theorem Dc.no(h:¬P):Dc (fun _=>some false) P:=⟨false,Evt.ret,⟨fun e=>(by cases e),fun e=>absurd e h⟩⟩
theorem Dc.ite{c:Bool}(h:c=true->Dc f P)(k:c=false->Dc g P):Dc (fun q=>if c=true then f q else g q) P:=by
 cases c with
 |true=>obtain⟨b,h1,h2⟩:=h rfl;exact⟨b,Evt.ifT rfl h1,h2⟩
 |false=>obtain⟨b,h1,h2⟩:=k rfl;exact⟨b,Evt.ifF rfl h1,h2⟩
theorem Dc.evt{x:Nat->Option α}{a:α}{c:Nat->α->Option Bool}(h:Evt x a)(k:Dc (fun q=>c q a) P):Dc (fun q=>x q>>=c q) P:=by
 obtain⟨b,h1,h2⟩:=k;exact⟨b,h.bind h1,h2⟩
theorem Dc.pure{x:Option α}{a:α}{c:Nat->α->Option Bool}(h:x=some a)(k:Dc (fun q=>c q a) P):Dc (fun q=>x>>=c q) P:=by
 obtain⟨b,h1,h2⟩:=k;exact⟨b,Evt.pure h h1,h2⟩
theorem Dc.bind{x:Nat->Option Bool}{c:Nat->Bool->Option Bool}(h:Dc x Q)(k:Q->Dc (fun q=>c q true) P)(k':¬Q->Dc (fun q=>c q false) P):Dc (fun q=>x q>>=c q) P:=by
 obtain⟨b,h1,h2⟩:=h
 cases b with
 |true=>exact Dc.evt h1 (k (h2.1 rfl))
 |false=>exact Dc.evt h1 (k' fun e=>by have:=h2.2 e;cases this)
theorem Dc.succ(h:Dc (fun q=>f (q+1)) P):Dc f P:=by obtain⟨b,h1,h2⟩:=h;exact⟨b,h1.succ,h2⟩
theorem Dc.iff(h:Dc f P)(k:P↔Q):Dc f Q:=by obtain⟨b,h1,h2⟩:=h;exact⟨b,h1,h2.trans k⟩
theorem Dc.of{b:Bool}(h:Evt f b):Dc f (b=true):=⟨b,h,Iff.rfl⟩
end
theorem tel_spec{t:Tm}(hg:goodT t=true):∃l y,splT (pisT t) t=some (l,y)∧l.length=pisT t∧y.k≠3∧goodT y=true∧y.nodes≤t.nodes∧y.high≤t.high∧∀x∈l,goodT x=true∧x.nodes≤t.nodes∧x.high≤t.high:=by
 obtain⟨r,hr⟩:=splT_all t hg _ (Nat.le_refl _)
 obtain⟨h1,h2,h3,h4⟩:=splT_spec _ t r hg hr
 refine⟨r.1,r.2,hr,h1,fun h=>?_,h3.1,h3.2.1,h3.2.2,h4⟩
 obtain⟨a,b,hx,-,-⟩:=pi_form h3.1 h
 rw[hx,pisT_pi]at h2
 omega
theorem ev_TeleL:∀(n:Nat) (t:Tm) (l:List Tm) (y:Tm) (acc:List Tm),goodT t=true->splT n t=some (l,y)->y.k≠3->acc.length+n≤100000->Evt (fun q=>e79Lcx q acc t.k t.n t.sub) (acc++l)
 |0,t,l,y,acc,_,h,hk,_=>by
  rw[splT]at h;cases h
  refine Evt.succ ?_
  simp only[e79Lcx]
  exact Evt.ifF (by simpa using hk) (Evt.ret.eq (by simp))
 |n+1,t,l,y,acc,hg,h,hk,hl=>by
  by_cases h3:t.k=3
  ·obtain⟨a,b,hx,hga,hgb⟩:=pi_form hg h3
   rw[hx,splT_pi]at h
   obtain⟨r',h1,h2⟩:=Option.map_eq_some_iff.1 h
   cases h2
   refine Evt.succ ?_
   simp only[e79Lcx]
   have hs:t.sub=[a,b]:=by rw[hx];rfl
   rw[hs]
   refine Evt.ifT (by simp[h3]) (Evt.pure (a:=a) rfl (Evt.pure (gapp_ok (by simp;omega)) (Evt.pure (a:=b) rfl ?_)))
   exact(ev_TeleL n b r'.1 r'.2 (acc++[a]) hgb h1 hk (by simp;omega)).eq (by simp)
  ·rw[splT_not h3]at h;cases h
theorem pis_le:∀(n:Nat) (t:Tm),t.nodes≤n->pisT t≤n
 |0,t,h=>by have:=nodes_pos t;omega
 |n+1,t,h=>by
  unfold pisT
  split
  ·rename_i k m a b
   rw[Tm.nodes,nodesL,nodesL,nodesL]at h
   have:=nodes_pos a
   split
   ·have:=pis_le n b (by omega);omega
   ·omega
  ·omega
theorem ev_Tele{t:Tm}(hg:goodT t=true)(hn:t.nodes≤8192){l:List Tm}{y:Tm}(h:splT (pisT t) t=some (l,y))(hk:y.k≠3):Evt (fun q=>e79 q t) l:=by
 simp only[e79]
 have:=pis_le t.nodes t (Nat.le_refl _)
 exact(ev_TeleL (pisT t) t l y [] hg h hk (by simp;omega)).eq (by simp)
theorem ev_Bene:∀(n:Nat) (t:Tm) (l:List Tm) (y:Tm),goodT t=true->splT n t=some (l,y)->y.k≠3->Evt (fun q=>e86Lcy q t.k t.n t.sub) y
 |0,t,l,y,_,h,hk=>by
  rw[splT]at h;cases h
  refine Evt.succ ?_
  simp only[e86Lcy]
  exact Evt.ifF (by simpa using hk) (Evt.ret.eq (tm_eta _))
 |n+1,t,l,y,hg,h,hk=>by
  by_cases h3:t.k=3
  ·obtain⟨a,b,hx,hga,hgb⟩:=pi_form hg h3
   rw[hx,splT_pi]at h
   obtain⟨r',h1,h2⟩:=Option.map_eq_some_iff.1 h
   cases h2
   refine Evt.succ ?_
   simp only[e86Lcy]
   have hs:t.sub=[a,b]:=by rw[hx];rfl
   rw[hs]
   exact Evt.ifT (by simp[h3]) (Evt.pure (a:=b) rfl (ev_Bene n b r'.1 r'.2 hgb h1 hk))
  ·rw[splT_not h3]at h;cases h
theorem app_form{t:Tm}(hg:goodT t=true)(h:t.k=5):∃a b,t = .mk 5 t.n [a,b]∧goodT a=true∧goodT b=true:=by
 obtain⟨k,n,l⟩:=t
 have hh:=goodT_mk hg
 replace h:k=5:=h
 subst h
 obtain⟨a,b,rfl⟩:=sub2 ((head_spec hh.1).2.2.2.2.2.1 (.inr (.inr rfl))).1
 have hc:=goodL_cons hh.2
 exact⟨a,b,rfl,hc.1,(goodL_cons hc.2).1⟩
theorem ar_le:∀(n:Nat) (t:Tm),goodT t=true->t.nodes≤n->(arT t).length≤n
 |0,t,_,h=>by have:=nodes_pos t;omega
 |n+1,t,hg,h=>by
  by_cases h5:t.k=5
  ·obtain⟨a,b,hx,hga,-⟩:=app_form hg h5
   rw[hx]at h ⊢
   rw[Tm.nodes,nodesL,nodesL,nodesL]at h
   rw[arT_app,List.length_append]
   have:=ar_le n a hga (by omega)
   have:=nodes_pos b
   simp;omega
  ·rw[arT_not h5];simp
theorem ev_rArgs:∀(n:Nat) (t:Tm),goodT t=true->t.nodes≤n->n≤8192->Evt (fun q=>e78 q t) (arT t)
 |0,t,_,h,_=>by have:=nodes_pos t;omega
 |n+1,t,hg,h,hn=>by
  refine Evt.succ ?_
  simp only[e78]
  by_cases h5:t.k=5
  ·obtain⟨a,b,hx,hga,-⟩:=app_form hg h5
   have hs:t.sub=[a,b]:=by rw[hx];rfl
   have hnn:=nodes_sub t
   rw[hs,nodesL,nodesL,nodesL]at hnn
   have:=nodes_pos b
   rw[hs]
   have hle:=ar_le n a hga (by omega)
   refine Evt.ifF (by simp[h5]) (Evt.pure (a:=a) rfl ((ev_rArgs n a hga (by omega) (by omega)).bind (Evt.pure (a:=b) rfl (Evt.pure (gapp_ok (by simp;omega)) (Evt.ret.eq ?_)))))
   rw[hx,arT_app]
  ·exact Evt.ifT (by simpa using h5) (Evt.ret.eq (arT_not h5).symm)
theorem ev_rHeadL:∀(n:Nat) (t:Tm),goodT t=true->t.nodes≤n->Evt (fun q=>e76Lcw q t.k t.n t.sub) (hdT t)
 |0,t,_,h=>by have:=nodes_pos t;omega
 |n+1,t,hg,h=>by
  refine Evt.succ ?_
  simp only[e76Lcw]
  by_cases h5:t.k=5
  ·obtain⟨a,b,hx,hga,-⟩:=app_form hg h5
   have hs:t.sub=[a,b]:=by rw[hx];rfl
   have hnn:=nodes_sub t
   rw[hs,nodesL,nodesL,nodesL]at hnn
   rw[hs]
   refine Evt.ifT (by simp[h5]) (Evt.pure (a:=a) rfl ((ev_rHeadL n a hga (by omega)).eq ?_))
   rw[hx,hdT_app]
  ·exact Evt.ifF (by simpa using h5) (Evt.ret.eq (by rw[hdT_not h5,tm_eta]))
theorem dc_appliedL(P:Nat)(binders:Int)(args:List Tm)(hP:P≤args.length)(hP2:P≤24)(hb:-1048576≤binders∧binders≤1048576):∀(m v:Nat),v+m=P->Dc (fun q=>e87Lcz q (P:Int) binders args (v:Int)) (varsD ((args.take P).drop v) (binders-1-v)=true)
 |0,v,hm=>by
  refine Dc.succ ?_
  simp only[e87Lcz]
  refine Dc.ite (fun h=>absurd (of_decide_eq_true h) (by omega)) fun _=>Dc.yes ?_
  rw[List.drop_eq_nil_of_le (by rw[List.length_take];omega)];rfl
 |m+1,v,hm=>by
  have hlt:v<args.length:=by omega
  have hd:(args.take P).drop v=args[v]::(args.take P).drop (v+1):=by
   have h2:v<(args.take P).length:=by rw[List.length_take];omega
   rw[List.drop_eq_getElem_cons h2];simp
  refine Dc.succ ?_
  simp only[e87Lcz]
  have hg:gidx args (v:Int)=some args[v]:=by unfold gidx;rw[if_pos (by omega),Int.toNat_natCast];exact List.getElem?_eq_getElem hlt
  rw[hd]
  refine Dc.ite (fun _=>Dc.pure hg (Dc.ite (fun h=>Dc.no ?_) fun h=>?_)) fun h=>absurd (of_decide_eq_false h) (by omega)
  ·rw[varsD];simp only[bne_iff_ne,ne_eq]at h;simp[h]
  ·have hk:args[v].k=1:=by simpa using h
   rw[w64_id (x:=binders-1) (by omega) (by omega),w64_id (x:=binders-1-v) (by omega) (by omega)]
   refine Dc.ite (fun h=>Dc.no ?_) fun h=>?_
   ·rw[varsD];simp only[bne_iff_ne,ne_eq]at h;simp[h]
   ·have hn:args[v].n=binders-1-v:=by simpa using h
    rw[w64_nat v (by omega)]
    refine(dc_appliedL P binders args hP hP2 hb m (v+1) (by omega)).iff ?_
    rw[varsD,hk,hn]
    simp only[beq_self_eq_true,Bool.true_and]
    rw[show binders-1-((v+1:Nat):Int)=binders-1-v-1 by omega]
theorem dc_applied(t:Tm)(of pars more binders:Int)(hg:goodT t=true)(hn:t.nodes≤8192)(h0:0≤pars∧pars≤24)(h1:0≤more∧more≤24)(hb:-1048576≤binders∧binders≤1048576):Dc (fun q=>e87 q t of pars more binders) (appliedT t of pars more binders=true):=by
 have hH:Evt (fun q=>e76 q t) (hdT t):=by simp only[e76];exact ev_rHeadL t.nodes t hg (Nat.le_refl _)
 simp only[e87]
 unfold appliedT
 refine Dc.evt (ev_rArgs t.nodes t hg (Nat.le_refl _) hn) (Dc.evt hH (Dc.ite (fun h=>Dc.no ?_) fun h=>Dc.ite (fun k=>Dc.no ?_) fun k=>?_))
 ·simp only[bne_iff_ne,ne_eq]at h;simp[h]
 ·simp only[bne_iff_ne,ne_eq]at k;simp[k]
 ·rw[w64_id (by omega) (by omega)]
  refine Dc.ite (fun j=>Dc.no ?_) fun j=>?_
  ·simp only[bne_iff_ne,ne_eq]at j;simp[j]
  ·have h':(hdT t).k=6:=by simpa using h
   have k':(hdT t).n=of:=by simpa using k
   have j':((arT t).length:Int)=pars+more:=by simpa using j
   have:=dc_appliedL pars.toNat binders (arT t) (by omega) (by omega) hb pars.toNat 0 (by omega)
   rw[show ((pars.toNat:Nat):Int)=pars by omega]at this
   refine this.iff ?_
   simp[h',k',j']
def RFam(l:List Ent)(i:Int):Prop:=famA (ent l i)=true∧famB (ent l i)=true∧famC l i (ent l i)=true∧((ent l i).fields.length=0∨((ent l i).inds=0∧(ent l i).cons.length=1∧runT (ent l i).fields (i+2)=true∧memT l i 4 (ent l i).fields 0=true∧shapedT (ent l (i+1)).type=true∧(pisT (ent l (i+1)).type:Int)=(ent l i).pars+(ent l i).fields.length))
def REnt(N:ByteArray->Bool)(l:List Ent)(i:Int):Prop:=N (ent l i).name=true∧closedT' (ent l i).type i=true∧(((ent l i).kind=1∧RFam l i)∨((ent l i).kind=2∧conT l i=true)∨((ent l i).kind=4∧projT l i=true)∨((ent l i).kind=3∧defT l i=true))
theorem ev_rIs(l:List Ent)(n kind:Int):Evt (fun q=>e77 q l n kind) (isT l n kind):=by
 simp only[e77]
 unfold isT
 by_cases h0:0≤n
 ·refine Evt.ifT (decide_eq_true h0) ?_
  by_cases h1:n<l.length
  ·exact Evt.ifT (decide_eq_true h1) (Evt.pure (gidx_ent h0 h1) (Evt.ret.eq (by simp[h0,h1])))
  ·exact Evt.ifF (decide_eq_false h1) (Evt.ret.eq (by simp[h1]))
 ·exact Evt.ifF (decide_eq_false h0) (Evt.ret.eq (by simp[h0]))
theorem ev_rzero(t:Tm):Evt (fun q=>e207 q t) (noneT t):=by
 simp only[e207]
 unfold noneT
 by_cases h0:t.k=0
 ·refine Evt.ifT (by simp[h0]) ?_
  by_cases h1:t.n=0
  ·exact Evt.ifT (by simp[h1]) (Evt.ret.eq (by simp[h0,h1]))
  ·exact Evt.ifF (by simp[h1]) (Evt.ret.eq (by simp[h1]))
 ·exact Evt.ifF (by simp[h0]) (Evt.ret.eq (by simp[h0]))
theorem dc_row(l:List Ent)(p:List Int)(f of kind:Int)(hf:0≤f∧f≤1048576)(hl:l.length≤65535)(hp:p.length≤1152921504606846976):∀(r:List Int) (v:Nat),p.drop v=r->Dc (fun q=>e209Lcv q l p f of kind (v:Int)) (runT r (f+v)=true∧memT l of kind r v=true)
 | [],v,hd=>by
  refine Dc.succ ?_
  simp only[e209Lcv]
  refine Dc.ite (fun h=>?_) fun _=>Dc.yes ⟨rfl,rfl⟩
  rw[drop_nil hd]at h;cases h
 |n::r,v,hd=>by
  have hlt:=drop_lt hd
  refine Dc.succ ?_
  simp only[e209Lcv]
  rw[w64_id (x:=f+v) (by omega) (by omega)]
  refine Dc.ite (fun _=>Dc.pure (drop_idx hd) (Dc.ite (fun h=>Dc.no fun⟨a,_⟩=>?_) fun h=>?_)) fun h=>?_
  ·rw[runT]at a;simp only[Bool.and_eq_true,beq_iff_eq]at a;simp[a.1]at h
  ·have hn:n=f+v:=by simpa using h
   refine Dc.bind (Dc.of (ev_rIs l n kind)) (fun hi=>?_) fun hi=>Dc.ite (fun h=>(by cases h)) fun _=>Dc.no fun⟨_,a⟩=>?_
   ·have hs:=isT_spec hi
    refine Dc.ite (fun _=>Dc.pure (gidx_ent hs.1 hs.2.1) (Dc.ite (fun h=>Dc.no fun⟨_,a⟩=>?_) fun h=>Dc.ite (fun h=>Dc.no fun⟨_,a⟩=>?_) fun h2=>?_)) fun h=>(by cases h)
    ·rw[memT]at a;simp only[Bool.and_eq_true,beq_iff_eq]at a;simp[a.1.1.2]at h
    ·rw[memT]at a;simp only[Bool.and_eq_true,beq_iff_eq]at a;simp[a.1.2]at h
    ·rw[w64_nat v (by omega)]
     refine(dc_row l p f of kind hf hl hp r (v+1) (drop_next hd)).iff ?_
     have h3:(ent l n).fam=of:=by simpa using h
     have h4:(ent l n).place=v:=by simpa using h2
     rw[runT,memT,hi,h3,h4]
     simp only[beq_self_eq_true,Bool.true_and,Bool.and_eq_true,beq_iff_eq]
     rw[show f+((v+1:Nat):Int)=f+v+1 by omega,show ((v+1:Nat):Int)=(v:Int)+1 by omega]
     exact⟨fun⟨a,b⟩=>⟨⟨hn,a⟩,b⟩,fun⟨⟨_,a⟩,b⟩=>⟨a,b⟩⟩
   ·rw[memT]at a;simp only[Bool.and_eq_true]at a;exact hi a.1.1.1
  ·rw[drop_dec hd]at h;cases h
theorem ev_rSplitL(N:Nat)(hN:N≤24):∀(m v:Nat) (acc:List Tm) (x:Tm),v+m=N->goodT x=true->acc.length≤v->Evt (fun q=>e208Lcu q (N:Int) acc (v:Int) x.k x.n x.sub) (splR acc (splT m x)):=by
 intro m
 induction m with
 |zero=>
  intro v acc x hm hg ha
  refine Evt.succ ?_
  simp only[e208Lcu]
  refine Evt.ifF (decide_eq_false (by omega)) (Evt.ret.eq ?_)
  rw[splT,splR,tm_eta];simp
 |succ m ih=>
  intro v acc x hm hg ha
  refine Evt.succ ?_
  simp only[e208Lcu]
  refine Evt.ifT (decide_eq_true (by omega)) ?_
  by_cases h:x.k=3
  ·obtain⟨a,b,hx,hga,hgb⟩:=pi_form hg h
   refine Evt.ifF (by simp[h]) ?_
   have hs:x.sub=[a,b]:=by rw[hx];rfl
   rw[hs]
   refine Evt.pure (a:=a) rfl (Evt.pure (gapp_ok (by simp<;>omega)) (Evt.pure (a:=b) rfl ?_))
   rw[w64_nat v (by omega)]
   refine(ih (v+1) (acc++[a]) b (by omega) hgb (by simp<;>omega)).eq ?_
   rw[hx,splT_pi]
   cases splT m b<;>simp[splR]
  ·rw[splT_not h,splR]
   exact Evt.ifT (by simp[h]) Evt.ret
theorem ev_rSplit(t:Tm)(n:Int)(ho:t.Ok):Evt (fun q=>e208 q t n) (splitT t n):=by
 simp only[e208]
 unfold splitT
 refine(ev_rShaped t ho).bind ?_
 by_cases hs:shapedT t=true
 ·refine Evt.ifT hs ?_
  rw[if_pos hs]
  by_cases h0:n<0
  ·rw[if_pos h0];exact Evt.ifT (decide_eq_true h0) Evt.ret
  ·rw[if_neg h0]
   refine Evt.ifF (decide_eq_false h0) ?_
   by_cases h1:n>24
   ·rw[if_pos h1];exact Evt.ifT (decide_eq_true h1) Evt.ret
   ·rw[if_neg h1]
    refine Evt.ifF (decide_eq_false h1) ?_
    have:=ev_rSplitL n.toNat (by omega) n.toNat 0 [] t (by omega) (shapedT_spec hs).2.2 (by simp)
    rwa[show ((n.toNat:Nat):Int)=n by omega]at this
 ·rw[if_neg hs];exact Evt.ifF (by simpa using hs) Evt.ret
def e141(qq:Nat)(p0:List Ent)(p1:Int):Option (Bool):=
 gidx p0 p1>>=fun x1=>
 if decide (x1.pars<0)then
 some false
 else
 if decide (x1.inds<0)then
 some false
 else
 if decide (x1.pars>24)then
 some false
 else
 if decide (x1.inds>24)then
 some false
 else
 if decide ((w64 (x1.pars+x1.inds))>24)then
 some false
 else
 if x1.fam != 0 then
 some false
 else
 if x1.place != 0 then
 some false
 else
 e207 qq x1.body>>=fun r10=>
 if r10 then
 e208 qq x1.type (w64 (x1.pars+x1.inds))>>=fun r13=>
 if r13.2.2 != 0 then
 some false
 else
 if r13.2.1.k != 2 then
 some false
 else
 if r13.2.1.n != x1.level then
 some false
 else
 if decide ((List.length x1.cons:Int)>16)then
 some false
 else
 e209 qq p0 x1.cons (w64 (p1+1)) p1 2>>=fun r19=>
 if r19 then
 if (List.length x1.fields:Int)==0 then
 some true
 else
 if x1.inds==0 then
 if (List.length x1.cons:Int)==1 then
 e209 qq p0 x1.fields (w64 (p1+2)) p1 4>>=fun r25=>
 if r25 then
 gidx p0 (w64 (p1+1))>>=fun x28=>
 e18 qq x28.type>>=fun r30=>
 if r30 then
 e79 qq x28.type>>=fun r33=>
 some ((List.length r33:Int)==(w64 (x1.pars+(List.length x1.fields:Int))))
 else
 some false
 else
 some false
 else
 some false
 else
 some false
 else
 some false
 else
 some false
abbrev K141 (p0:List Ent) (p1:Int) (r:Bool) (C:Cf):Prop:=C 141 [] [slv entL p0 .no,ai p1] (ab r) [] 0
theorem q141:Qf 141 Tryz.f141:=⟨Tryz.func141,by kernel_rfl⟩
theorem k141{p0 p1 r}(h:K141 p0 p1 r Ci):K141 p0 p1 r Ct:=⟨h,⟨⟨tv,dE _⟩,tv,tv⟩,forall_nil,tv,forall_nil⟩
theorem c141{qq p0 p1 r}(h:e141 qq p0 p1=some r):K141 p0 p1 r Ct:=by
 unfold e141 at h
 obtain⟨x1,h2,h⟩:=obind h
 have k:=oA 0 (ix22 (o:=.no) h2) o0
 rcases spl h with⟨h3,h⟩|⟨h3,h⟩
 obtain rfl:=sj h
 exact k141 (tF q141 0 [] (oB 3 h3 k))
 have k:=oB 3 h3 k
 rcases spl h with⟨h4,h⟩|⟨h4,h⟩
 obtain rfl:=sj h
 exact k141 (tF q141 0 [] (oB 1 h4 k))
 have k:=oB 1 h4 k
 rcases spl h with⟨h5,h⟩|⟨h5,h⟩
 obtain rfl:=sj h
 exact k141 (tF q141 0 [] (oB 1 h5 k))
 have k:=oB 1 h5 k
 rcases spl h with⟨h6,h⟩|⟨h6,h⟩
 obtain rfl:=sj h
 exact k141 (tF q141 0 [] (oB 1 h6 k))
 have k:=oB 1 h6 k
 rcases spl h with⟨h7,h⟩|⟨h7,h⟩
 obtain rfl:=sj h
 exact k141 (tF q141 0 [] (oB 3 h7 k))
 have k:=oB 3 h7 k
 rcases spl h with⟨h8,h⟩|⟨h8,h⟩
 obtain rfl:=sj h
 exact k141 (tF q141 0 [] (oB 1 h8 k))
 have k:=oB 1 h8 k
 rcases spl h with⟨h9,h⟩|⟨h9,h⟩
 obtain rfl:=sj h
 exact k141 (tF q141 0 [] (oB 1 h9 k))
 obtain⟨r10,h11,h⟩:=obind h
 have k:=oB 1 h9 k
 rcases spl h with⟨h12,h⟩|⟨h12,h⟩
 obtain⟨r13,h14,h⟩:=obind h
 have k:=oC 5 [] (c208 h14)<|oK 1 [] h12 (c207 h11) k
 rcases spl h with⟨h15,h⟩|⟨h15,h⟩
 obtain rfl:=sj h
 exact k141 (tF q141 0 [] (oB 4 h15 k))
 have k:=oB 4 h15 k
 rcases spl h with⟨h16,h⟩|⟨h16,h⟩
 obtain rfl:=sj h
 exact k141 (tF q141 0 [] (oB 1 h16 k))
 have k:=oB 1 h16 k
 rcases spl h with⟨h17,h⟩|⟨h17,h⟩
 obtain rfl:=sj h
 exact k141 (tF q141 0 [] (oB 2 h17 k))
 have k:=oB 2 h17 k
 rcases spl h with⟨h18,h⟩|⟨h18,h⟩
 obtain rfl:=sj h
 exact k141 (tF q141 0 [] (oB 2 h18 k))
 obtain⟨r19,h20,h⟩:=obind h
 have k:=oB 2 h18 k
 rcases spl h with⟨h21,h⟩|⟨h21,h⟩
 have k:=oK 2 [] h21 (c209 h20) k
 rcases spl h with⟨h22,h⟩|⟨h22,h⟩
 obtain rfl:=sj h
 exact k141 (tF q141 0 [] (oB 3 h22 k))
 have k:=oB 3 h22 k
 rcases spl h with⟨h23,h⟩|⟨h23,h⟩
 have k:=oB 1 h23 k
 rcases spl h with⟨h24,h⟩|⟨h24,h⟩
 obtain⟨r25,h26,h⟩:=obind h
 have k:=oB 2 h24 k
 rcases spl h with⟨h27,h⟩|⟨h27,h⟩
 obtain⟨x28,h29,h⟩:=obind h
 obtain⟨r30,h31,h⟩:=obind h
 have k:=oA 1 (ix22 (o:=.no) h29)<|oK 2 [] h27 (c209 h26) k
 rcases spl h with⟨h32,h⟩|⟨h32,h⟩
 obtain⟨r33,h34,h⟩:=obind h
 obtain rfl:=sj h
 exact k141 (tF q141 6 [] (oC 1 [] (c79 h34)<|oA 1 (ix22 (o:=.no) h29)<|oK 1 [] h32 (c18 h31) k))
 obtain rfl:=sj h
 exact k141 (tF q141 0 [] (oK 1 [] h32 (c18 h31) k))
 obtain rfl:=sj h
 exact k141 (tF q141 0 [] (oK 2 [] h27 (c209 h26) k))
 obtain rfl:=sj h
 exact k141 (tF q141 0 [] (oB 2 h24 k))
 obtain rfl:=sj h
 exact k141 (tF q141 0 [] (oB 1 h23 k))
 obtain rfl:=sj h
 exact k141 (tF q141 1 [] (oK 2 [] h21 (c209 h20) k))
 obtain rfl:=sj h
 exact k141 (tF q141 1 [] (oK 1 [] h12 (c207 h11) k))
def e142Lda:Nat->Int->Ent->(List Int)->Int->Option (Bool)
 |0,_,_,_,_=>none
 |qq+1,p1,x1,v6,v7=>
 if decide (v7<(List.length v6:Int))then
 gidx v6 v7>>=fun x19=>
 if x19==p1 then
 if x1.place==v7 then
 some true
 else
 e142Lda qq p1 x1 v6 (w64 (v7+1))
 else
 e142Lda qq p1 x1 v6 (w64 (v7+1))
 else
 some false
def e142(qq:Nat)(p0:List Ent)(p1:Int):Option (Bool):=
 gidx p0 p1>>=fun x1=>
 e77 qq p0 x1.fam 1>>=fun r3=>
 if r3 then
 if decide (x1.fam≥p1)then
 some false
 else
 e207 qq x1.body>>=fun r7=>
 if r7 then
 if x1.inds != 0 then
 some false
 else
 if x1.level != 0 then
 some false
 else
 if (List.length x1.cons:Int) != 0 then
 some false
 else
 if (List.length x1.fields:Int) != 0 then
 some false
 else
 gidx p0 x1.fam>>=fun x14=>
 if x1.pars != x14.pars then
 some false
 else
 if x1.kind==4 then
 e142Lda qq p1 x1 x14.fields 0
 else
 e142Lda qq p1 x1 x14.cons 0
 else
 some false
 else
 some false
def g142LdaE0(j:Nat->Value)(p1:Int)(x1:Ent)(v6:List Int)(v7:Int):=sp j 95 0 [(1,ai p1),(5,.mp 0 0),(6,slv intC v6 .no),(7,ai v7)]
def g142LdaS0(p1:Int)(x1:Ent)(v6:List Int)(v7:Int):LSt:=⟨[(0,.cells [ai x1.kind,at' x1.name,ai x1.type.k,ai x1.type.n,slv tmCells x1.type.sub .no,ai x1.body.k,ai x1.body.n,slv tmCells x1.body.sub .no,ai x1.fam,ai x1.place,ai x1.pars,ai x1.inds,ai x1.level,slv intC x1.cons .no,slv intC x1.fields .no])],1,[],0,[]⟩
abbrev K142 (p0:List Ent) (p1:Int) (r:Bool) (C:Cf):Prop:=C 142 [] [slv entL p0 .no,ai p1] (ab r) [] 0
theorem q142:Qf 142 Tryz.f142:=⟨Tryz.func142,by kernel_rfl⟩
theorem k142{p0 p1 r}(h:K142 p0 p1 r Ci):K142 p0 p1 r Ct:=⟨h,⟨⟨tv,dE _⟩,tv,tv⟩,forall_nil,tv,forall_nil⟩
theorem l142Lda:∀qq:Nat,(∀p1 x1 v6 v7 r,e142Lda qq p1 x1 v6 v7=some r->(∀j,Dl Tryz.prog 0 (inn (inn (rgt (lft (rgt (rgt (rgt (rgt (rgt (bod Tryz.f142)))))))))) (g142LdaE0 j p1 x1 v6 v7) (g142LdaS0 p1 x1 v6 v7) (frameQ Tryz.prog 0 (FinQ Tryz.prog 0 Tryz.f142 (ab r) [] 0) [.blk 0,.seq (rgt (rgt (rgt (rgt (rgt (rgt (bod Tryz.f142)))))))]))):=by
 intro qq
 induction qq with
 |zero=>
  exact fun _ _ _ _ _ h=>nn h
 |succ qq ih=>
  intro p1 x1 v6 v7 r h
  rw[e142Lda]at h
  rcases spl h with⟨h18,h⟩|⟨h18,h⟩
  obtain⟨x19,h20,h⟩:=obind h
  have k:=oA 0 (ix41 (o:=.no) h20)<|oB 1 h18 o0
  rcases spl h with⟨h21,h⟩|⟨h21,h⟩
  have k:=oB 1 h21 k
  rcases spl h with⟨h22,h⟩|⟨h22,h⟩
  obtain rfl:=sj h
  exact fun j=>lF 0 [] (oB 1 h22 k)
  exact fun j=>lH 1 [] [0] [] [1,5,6,7] (oD (dI v6)<|oD (dI x1.fields)<|oD (dI x1.cons)<|oD (dT x1.body.sub)<|oD (dT x1.type.sub)<|oB 1 h22 k) (ih _ _ _ _ _ h)
  exact fun j=>lH 1 [] [0] [] [1,5,6,7] (oD (dI v6)<|oD (dI x1.fields)<|oD (dI x1.cons)<|oD (dT x1.body.sub)<|oD (dT x1.type.sub)<|oB 1 h21 k) (ih _ _ _ _ _ h)
  obtain rfl:=sj h
  exact fun j=>lF 0 [] (oB 1 h18 o0)
theorem c142{qq p0 p1 r}(h:e142 qq p0 p1=some r):K142 p0 p1 r Ct:=by
 unfold e142 at h
 obtain⟨x1,h2,h⟩:=obind h
 obtain⟨r3,h4,h⟩:=obind h
 have k:=oA 0 (ix22 (o:=.no) h2) o0
 rcases spl h with⟨h5,h⟩|⟨h5,h⟩
 have k:=oK 3 [] h5 (c77 h4) k
 rcases spl h with⟨h6,h⟩|⟨h6,h⟩
 obtain rfl:=sj h
 exact k142 (tF q142 0 [] (oB 2 h6 k))
 obtain⟨r7,h8,h⟩:=obind h
 have k:=oB 2 h6 k
 rcases spl h with⟨h9,h⟩|⟨h9,h⟩
 have k:=oK 1 [] h9 (c207 h8) k
 rcases spl h with⟨h10,h⟩|⟨h10,h⟩
 obtain rfl:=sj h
 exact k142 (tF q142 0 [] (oB 2 h10 k))
 have k:=oB 2 h10 k
 rcases spl h with⟨h11,h⟩|⟨h11,h⟩
 obtain rfl:=sj h
 exact k142 (tF q142 0 [] (oB 1 h11 k))
 have k:=oB 1 h11 k
 rcases spl h with⟨h12,h⟩|⟨h12,h⟩
 obtain rfl:=sj h
 exact k142 (tF q142 0 [] (oB 2 h12 k))
 have k:=oB 2 h12 k
 rcases spl h with⟨h13,h⟩|⟨h13,h⟩
 obtain rfl:=sj h
 exact k142 (tF q142 0 [] (oB 2 h13 k))
 obtain⟨x14,h15,h⟩:=obind h
 have k:=oA 2 (ix22 (o:=.no) h15)<|oB 2 h13 k
 rcases spl h with⟨h16,h⟩|⟨h16,h⟩
 obtain rfl:=sj h
 exact k142 (tF q142 0 [] (oB 1 h16 k))
 have k:=oA 1 (ix22 (o:=.no) h15)<|oB 1 h16 k
 rcases spl h with⟨h17,h⟩|⟨h17,h⟩
 exact k142 (tH q142 1 [] [0] [] [1,5,6,7] (oD (dI x14.fields)<|oD (dI x1.fields)<|oD (dI x1.cons)<|oD (dT x1.body.sub)<|oD (dT x1.type.sub)<|oA 1 (ix22 (o:=.no) h15)<|oB 2 h17 k) (l142Lda _ _ _ _ _ _ h))
 exact k142 (tH q142 0 [] [0] [] [1,5,6,7] (oD (dI x14.cons)<|oD (dI x1.fields)<|oD (dI x1.cons)<|oD (dT x1.body.sub)<|oD (dT x1.type.sub)<|oB 2 h17 k) (l142Lda _ _ _ _ _ _ h))
 obtain rfl:=sj h
 exact k142 (tF q142 1 [] (oK 1 [] h9 (c207 h8) k))
 obtain rfl:=sj h
 exact k142 (tF q142 1 [] (oK 3 [] h5 (c77 h4) k))
theorem rfam_spec{l:List Ent}{i:Int}(h:RFam l i):0≤(ent l i).pars∧0≤(ent l i).inds∧(ent l i).pars+(ent l i).inds≤24:=by
 have h1:=h.1
 unfold famA at h1
 simp only[Bool.and_eq_true,decide_eq_true_eq]at h1
 exact⟨by omega,by omega,by omega⟩
theorem dc_rfamily(l:List Ent)(i:Int)(h0:0≤i)(h1:i<l.length)(hl:l.length≤65535)(he:∀e∈l,EOk e):Dc (fun q=>e141 q l i) (RFam l i):=by
 have hx:=he _ (ent_mem h0 h1)
 simp only[e141]
 refine Dc.pure (gidx_ent h0 h1) ?_
 have no:(famA (ent l i)=false∨famB (ent l i)=false∨famC l i (ent l i)=false)->¬RFam l i:=fun h k=>by
  rcases h with h|h|h
  ·rw[k.1]at h;cases h
  ·rw[k.2.1]at h;cases h
  ·rw[k.2.2.1]at h;cases h
 refine Dc.ite (fun a=>Dc.no (no (.inl ?_))) fun a1=>Dc.ite (fun a=>Dc.no (no (.inl ?_))) fun a2=>Dc.ite (fun a=>Dc.no (no (.inl ?_))) fun a3=>Dc.ite (fun a=>Dc.no (no (.inl ?_))) fun a4=>?_
 ·have:=of_decide_eq_true a;unfold famA;rw[decide_eq_false (by omega)];simp
 ·have:=of_decide_eq_true a;unfold famA;rw[decide_eq_false (p:=0≤(ent l i).inds) (by omega)];simp
 ·have:=of_decide_eq_true a;unfold famA;rw[decide_eq_false (p:=(ent l i).pars≤24) (by omega)];simp
 ·have:=of_decide_eq_true a;have:=of_decide_eq_false a1;unfold famA;rw[decide_eq_false (p:=(ent l i).inds≤24-(ent l i).pars) (by omega)];simp
 have a1:=of_decide_eq_false a1
 have a2:=of_decide_eq_false a2
 have a3:=of_decide_eq_false a3
 have a4:=of_decide_eq_false a4
 rw[w64_id (x:=(ent l i).pars+(ent l i).inds) (by omega) (by omega)]
 refine Dc.ite (fun a=>Dc.no (no (.inl ?_))) fun a5=>Dc.ite (fun a=>Dc.no (no (.inl ?_))) fun a6=>Dc.ite (fun a=>Dc.no (no (.inl ?_))) fun a7=>?_
 ·have:=of_decide_eq_true a;unfold famA;rw[decide_eq_false (p:=(ent l i).inds≤24-(ent l i).pars) (by omega)];simp
 ·have:(ent l i).fam≠0:=by simpa using a
  unfold famA;rw[beq_eq_false_iff_ne.2 this];simp
 ·have:(ent l i).place≠0:=by simpa using a
  unfold famA;rw[beq_eq_false_iff_ne.2 this];simp
 have a5:=of_decide_eq_false a5
 refine Dc.bind (Dc.of (ev_rzero _)) (fun a8=>?_) fun a8=>Dc.ite (fun h=>(by cases h)) fun _=>Dc.no (no (.inl ?_))
 case refine_2=>unfold famA;rw[show noneT (ent l i).body=false by simpa using a8];simp
 have hA:famA (ent l i)=true:=by
  unfold famA
  have b6:(ent l i).fam=0:=by simpa using a6
  have b7:(ent l i).place=0:=by simpa using a7
  simp only[Bool.and_eq_true,decide_eq_true_eq,beq_iff_eq]
  exact⟨⟨⟨⟨⟨⟨by omega,by omega⟩,by omega⟩,by omega⟩,b6⟩,b7⟩,a8⟩
 refine Dc.ite (fun _=>?_) fun h=>(by cases h)
 refine Dc.evt (ev_rSplit _ _ hx.1) (Dc.ite (fun a=>Dc.no (no (.inr (.inl ?_)))) fun b1=>Dc.ite (fun a=>Dc.no (no (.inr (.inl ?_)))) fun b2=>Dc.ite (fun a=>Dc.no (no (.inr (.inl ?_)))) fun b3=>Dc.ite (fun a=>Dc.no (no (.inr (.inr ?_)))) fun b4=>?_)
 ·unfold famB;rw[show ((splitT (ent l i).type ((ent l i).pars+(ent l i).inds)).2.2==0)=false by rw[beq_eq_false_iff_ne];simpa using a];simp
 ·unfold famB;rw[show ((splitT (ent l i).type ((ent l i).pars+(ent l i).inds)).2.1.k==2)=false by rw[beq_eq_false_iff_ne];simpa using a];simp
 ·unfold famB;rw[show ((splitT (ent l i).type ((ent l i).pars+(ent l i).inds)).2.1.n==(ent l i).level)=false by rw[beq_eq_false_iff_ne];simpa using a];simp
 ·have:=of_decide_eq_true a;unfold famC;rw[decide_eq_false (by omega)];simp
 have hB:famB (ent l i)=true:=by
  unfold famB
  simp only[Bool.and_eq_true,beq_iff_eq]
  exact⟨⟨by simpa using b1,by simpa using b2⟩,by simpa using b3⟩
 have b4:=of_decide_eq_false b4
 rw[w64_id (x:=i+1) (by omega) (by omega)]
 have hrow:=dc_row l (ent l i).cons (i+1) i 2 (by omega) hl hx.2.2.1 (ent l i).cons 0 rfl
 refine Dc.bind (Q:=runT (ent l i).cons (i+1)=true∧memT l i 2 (ent l i).cons 0=true) (by simp only[e209];exact hrow.iff (by simp)) (fun b5=>?_) fun b5=>Dc.ite (fun h=>(by cases h)) fun _=>Dc.no (no (.inr (.inr ?_)))
 case refine_2=>
  unfold famC
  cases r1:runT (ent l i).cons (i+1)with
  |false=>simp
  |true=>rw[show memT l i 2 (ent l i).cons 0=false by cases r2:memT l i 2 (ent l i).cons 0 with|false=>rfl|true=>exact absurd ⟨r1,r2⟩ b5];simp
 have hC:famC l i (ent l i)=true:=by
  unfold famC
  simp only[Bool.and_eq_true,decide_eq_true_eq]
  exact⟨⟨by omega,b5.1⟩,b5.2⟩
 refine Dc.ite (fun _=>?_) fun h=>(by cases h)
 refine Dc.ite (fun c1=>Dc.yes ⟨hA,hB,hC,.inl ?_⟩) fun c1=>?_
 ·have:((ent l i).fields.length:Int)=0:=by simpa using c1
  omega
 have c1':¬(ent l i).fields.length=0:=fun h=>by rw[h]at c1;simp at c1
 have no2:∀ {P:Prop},(P->False)->(RFam l i->P)->¬RFam l i:=fun h k m=>h (k m)
 have rest:RFam l i->(ent l i).inds=0∧(ent l i).cons.length=1∧runT (ent l i).fields (i+2)=true∧memT l i 4 (ent l i).fields 0=true∧shapedT (ent l (i+1)).type=true∧(pisT (ent l (i+1)).type:Int)=(ent l i).pars+(ent l i).fields.length:=fun h=>h.2.2.2.resolve_left c1'
 refine Dc.ite (fun c2=>?_) fun c2=>Dc.no fun h=>?_
 case refine_2=>have:=(rest h).1;rw[this]at c2;simp at c2
 have c2':(ent l i).inds=0:=by simpa using c2
 refine Dc.ite (fun c3=>?_) fun c3=>Dc.no fun h=>?_
 case refine_2=>have:=(rest h).2.1;rw[this]at c3;simp at c3
 have c3':(ent l i).cons.length=1:=by have:((ent l i).cons.length:Int)=1:=(by simpa using c3);omega
 rw[w64_id (x:=i+2) (by omega) (by omega)]
 have hrow2:=dc_row l (ent l i).fields (i+2) i 4 (by omega) hl hx.2.2.2 (ent l i).fields 0 rfl
 refine Dc.bind (Q:=runT (ent l i).fields (i+2)=true∧memT l i 4 (ent l i).fields 0=true) (by simp only[e209];exact hrow2.iff (by simp)) (fun c4=>?_) fun c4=>Dc.ite (fun h=>(by cases h)) fun _=>Dc.no fun h=>c4 ⟨(rest h).2.2.1,(rest h).2.2.2.1⟩
 refine Dc.ite (fun _=>?_) fun h=>(by cases h)
 have hnext:i+1<l.length:=by
  have h5:=b5
  obtain⟨n,hn⟩:∃n,(ent l i).cons=[n]:=by
   rcases hc:(ent l i).cons with _|⟨n,_|⟨m,r⟩⟩
   ·rw[hc]at c3';simp at c3'
   ·exact⟨n,rfl⟩
   ·rw[hc]at c3';simp at c3'
  rw[hn,runT,memT]at h5
  simp only[Bool.and_eq_true,beq_iff_eq]at h5
  have:=isT_spec h5.2.1.1.1
  omega
 have hx1:=he _ (ent_mem (l:=l) (n:=i+1) (by omega) hnext)
 refine Dc.pure (gidx_ent (by omega) hnext) (Dc.bind (Dc.of (ev_rShaped _ hx1.1)) (fun c5=>?_) fun c5=>Dc.ite (fun h=>(by cases h)) fun _=>Dc.no fun h=>c5 (rest h).2.2.2.2.1)
 refine Dc.ite (fun _=>?_) fun h=>(by cases h)
 have hsp:=shapedT_spec c5
 obtain⟨L,y,hs,hL,hk,-⟩:=tel_spec hsp.2.2
 refine Dc.evt (ev_Tele hsp.2.2 hsp.1 hs hk) (Dc.ret ?_)
 have hw:w64 ((ent l i).pars+((ent l i).fields.length:Int))=(ent l i).pars+(ent l i).fields.length:=w64_id (by have:=hx.2.2.2;omega) (by have:=hx.2.2.2;omega)
 rw[hw,beq_iff_eq,hL]
 exact⟨fun h=>⟨hA,hB,hC,.inr ⟨c2',c3',c4.1,c4.2,c5,h⟩⟩,fun h=>(rest h).2.2.2.2.2⟩
theorem dc_ownedL(i p:Int)(L:List Int)(x:Ent)(hp:x.place=p)(hl:L.length≤1152921504606846976):∀(r:List Int) (v:Nat),L.drop v=r->Dc (fun q=>e142Lda q i x L (v:Int)) (∃k:Nat,v≤k∧∃h:k<L.length,L[k]=i∧p=k)
 | [],v,hd=>by
  refine Dc.succ ?_
  simp only[e142Lda]
  refine Dc.ite (fun h=>?_) fun _=>Dc.no fun⟨k,h1,h2,_⟩=>?_
  ·rw[drop_nil hd]at h;cases h
  ·have:=List.drop_eq_nil_iff.1 hd;omega
 |n::r,v,hd=>by
  have hlt:=drop_lt hd
  have hx:L[v]=n:=by
   have:=drop_idx hd
   unfold gidx at this
   rw[if_pos (by omega),Int.toNat_natCast,List.getElem?_eq_getElem hlt]at this
   exact Option.some.inj this
  have next:=dc_ownedL i p L x hp hl r (v+1) (drop_next hd)
  have go:¬(n=i∧p=v)->((∃k:Nat,v+1≤k∧∃h:k<L.length,L[k]=i∧p=k) ↔ ∃k:Nat,v≤k∧∃h:k<L.length,L[k]=i∧p=k):=fun hn=>⟨fun⟨k,a,b,c⟩=>⟨k,by omega,b,c⟩,fun⟨k,a,b,c,d⟩=>by
   by_cases e:k=v
   ·subst e;exact absurd ⟨by rw[←hx];exact c,d⟩ hn
   ·exact⟨k,by omega,b,c,d⟩⟩
  refine Dc.succ ?_
  simp only[e142Lda]
  rw[w64_nat v (by omega)]
  refine Dc.ite (fun _=>Dc.pure (drop_idx hd) (Dc.ite (fun h=>Dc.ite (fun k=>Dc.yes ?_) fun k=>next.iff (go fun e=>?_)) fun h=>next.iff (go fun e=>?_))) fun h=>?_
  ·have h':n=i:=by simpa using h
   have k':x.place=v:=by simpa using k
   exact⟨v,Nat.le_refl _,hlt,by rw[hx,h'],by omega⟩
  ·have:x.place=v:=by omega
   rw[this]at k;simp at k
  ·rw[e.1]at h;simp at h
  ·rw[drop_dec hd]at h;cases h
theorem dc_rowned(l:List Ent)(i:Int)(h0:0≤i)(h1:i<l.length)(he:∀e∈l,EOk e)(hk:(ent l i).kind=2∨(ent l i).kind=4):Dc (fun q=>e142 q l i) (ownedT l i=true):=by
 have hx:=he _ (ent_mem h0 h1)
 simp only[e142]
 refine Dc.pure (gidx_ent h0 h1) ?_
 have need:ownedT l i=true->isT l (ent l i).fam 1=true∧(ent l i).fam<i∧(ent l i).pars=(ent l (ent l i).fam).pars∧noneT (ent l i).body=true∧(ent l i).inds=0∧(ent l i).level=0∧(ent l i).cons.length=0∧(ent l i).fields.length=0:=fun h=>by
  unfold ownedT ownA at h
  simp only[Bool.and_eq_true,decide_eq_true_eq,beq_iff_eq]at h
  exact⟨h.1.1.1.1.1.1.1.1,h.1.1.1.1.1.1.1.2,h.1.1.1.1.1.1.2,h.1.1.1.1.1.2,h.1.1.1.1.2,h.1.1.1.2,h.1.1.2,h.1.2⟩
 refine Dc.bind (Dc.of (ev_rIs l _ 1)) (fun a1=>?_) fun a1=>Dc.ite (fun h=>(by cases h)) fun _=>Dc.no fun h=>a1 (need h).1
 have hi:=isT_spec a1
 refine Dc.ite (fun _=>?_) fun h=>(by cases h)
 refine Dc.ite (fun a=>Dc.no fun h=>?_) fun a2=>?_
 ·have:=of_decide_eq_true a;have:=(need h).2.1;omega
 refine Dc.bind (Dc.of (ev_rzero _)) (fun a3=>?_) fun a3=>Dc.ite (fun h=>(by cases h)) fun _=>Dc.no fun h=>a3 (need h).2.2.2.1
 refine Dc.ite (fun _=>?_) fun h=>(by cases h)
 refine Dc.ite (fun a=>Dc.no fun h=>?_) fun a4=>Dc.ite (fun a=>Dc.no fun h=>?_) fun a5=>Dc.ite (fun a=>Dc.no fun h=>?_) fun a6=>Dc.ite (fun a=>Dc.no fun h=>?_) fun a7=>Dc.pure (gidx_ent hi.1 hi.2.1) (Dc.ite (fun a=>Dc.no fun h=>?_) fun a8=>?_)
 ·rw[(need h).2.2.2.2.1]at a;simp at a
 ·rw[(need h).2.2.2.2.2.1]at a;simp at a
 ·rw[(need h).2.2.2.2.2.2.1]at a;simp at a
 ·rw[(need h).2.2.2.2.2.2.2]at a;simp at a
 ·rw[(need h).2.2.1]at a;simp at a
 have hA:ownA l i (ent l i)=true:=by
  unfold ownA
  have b6:((ent l i).cons.length:Int)=0:=by simpa using a6
  have b7:((ent l i).fields.length:Int)=0:=by simpa using a7
  simp only[Bool.and_eq_true,decide_eq_true_eq,beq_iff_eq]
  exact⟨⟨⟨⟨⟨⟨⟨a1,by have:=of_decide_eq_false a2;omega⟩,by simpa using a8⟩,a3⟩,by simpa using a4⟩,by simpa using a5⟩,by omega⟩,by omega⟩
 have hf:=he _ (ent_mem hi.1 hi.2.1)
 have hB:∀L:List Int,L=ownL l (ent l i)->L.length≤1152921504606846976->Dc (fun q=>e142Lda q i (ent l i) L 0) (ownedT l i=true):=fun L hL hl=>by
  refine(dc_ownedL i (ent l i).place L (ent l i) rfl hl L 0 rfl).iff ?_
  unfold ownedT ownB
  rw[hA,←hL]
  simp only[Bool.true_and,Bool.and_eq_true,decide_eq_true_eq,beq_iff_eq]
  constructor
  ·rintro ⟨k,-,hk,h1,h2⟩
   rw[h2]
   refine⟨⟨by omega,by omega⟩,?_⟩
   rw[Int.toNat_natCast,List.getElem?_eq_getElem hk];exact h1
  ·rintro ⟨⟨g0,g1⟩,g2⟩
   have hk:(ent l i).place.toNat<L.length:=by omega
   refine⟨(ent l i).place.toNat,Nat.zero_le _,hk,?_,by omega⟩
   rw[List.getElem?_eq_getElem hk]at g2;exact g2
 refine Dc.ite (fun k=>?_) fun k=>?_
 ·have k':(ent l i).kind=4:=by simpa using k
  exact hB _ (by unfold ownL;rw[if_pos k']) hf.2.2.2
 ·have k':(ent l i).kind≠4:=by simpa using k
  exact hB _ (by unfold ownL;rw[if_neg k']) hf.2.2.1
def e74Ldb:Nat->(List Ent)->(List ByteArray)->Int->Option (List ByteArray)
 |0,_,_,_=>none
 |qq+1,p0,v3,v4=>
 if decide (v4<(List.length p0:Int))then
 gidx p0 v4>>=fun x2=>
 gapp 16 v3 [x2.name]>>=fun l4=>
 e74Ldb qq p0 l4 (w64 (v4+1))
 else
 some v3
def e74(qq:Nat)(p0:List Ent):Option (List ByteArray):=
 e74Ldb qq p0 [] 0
def g74LdbE0(j:Nat->Value)(p0:List Ent)(v3:List ByteArray)(v4:Int):=sp j 21 0 [(0,slv entL p0 .no),(3,slv strC v3 (.st 0 1)),(4,ai v4)]
def g74LdbS0(p0:List Ent)(v3:List ByteArray)(v4:Int):LSt:=⟨[],0,[0],1,[]⟩
abbrev K74 (p0:List Ent) (r:List ByteArray) (C:Cf):Prop:=C 74 [] [slv entL p0 .no] (.sl (flat strC r) (List.length r) .no) [] 0
theorem q74:Qf 74 Tryz.f74:=⟨Tryz.func74,by kernel_rfl⟩
theorem k74{p0 r}(h:K74 p0 r Ci):K74 p0 r Ct:=⟨h,⟨⟨tv,dE _⟩,tv⟩,forall_nil,dS _,forall_nil⟩
theorem l74Ldb:∀qq:Nat,(∀p0 v3 v4 r,e74Ldb qq p0 v3 v4=some r->(∀j,Dl Tryz.prog 0 (inn (inn (rgt (lft (rgt (rgt (bod Tryz.f74))))))) (g74LdbE0 j p0 v3 v4) (g74LdbS0 p0 v3 v4) (frameQ Tryz.prog 0 (FinQ Tryz.prog 0 Tryz.f74 (.sl (flat strC r) (List.length r) .no) [] 0) [.blk 0,.seq (rgt (rgt (rgt (bod Tryz.f74))))]))):=by
 intro qq
 induction qq with
 |zero=>
  exact fun _ _ _ _ h=>nn h
 |succ qq ih=>
  intro p0 v3 v4 r h
  rw[e74Ldb]at h
  rcases spl h with⟨h1,h⟩|⟨h1,h⟩
  obtain⟨x2,h3,h⟩:=obind h
  obtain⟨l4,h5,h⟩:=obind h
  exact fun j=>lH 1 [] [] [1] [0,3,4] (oD (dS l4)<|oD (dE p0)<|oP 2 (apS141 h5 (by simp))<|oA 0 (ix22 (o:=.no) h3)<|oB 1 h1 o0) (ih _ _ _ _ h)
  obtain rfl:=sj h
  exact fun j=>lF 0 [] (oD (dS v3)<|oB 1 h1 o0)
theorem c74{qq p0 r}(h:e74 qq p0=some r):K74 p0 r Ct:=by
 unfold e74 at h
 exact k74 (tH q74 1 [(none,3,1)] [] [0] [0,3,4] (oD (dS ([]:List ByteArray))<|oD (dE p0) o0) (l74Ldb _ _ _ _ _ h))
def e75(qq:Nat)(p0:List Ent)(p1:Int):Option (Bool):=
 gidx p0 p1>>=fun x1=>
 e140 qq x1.name>>=fun r3=>
 if r3 then
 e116 qq x1.type p1>>=fun r6=>
 if r6 then
 e79 qq x1.type>>=fun r9=>
 if x1.kind==1 then
 e141 qq p0 p1>>=fun r12=>
 some r12
 else
 if x1.kind==3 then
 e116 qq x1.body p1>>=fun r15=>
 if r15 then
 if x1.fam==0 then
 if x1.place==0 then
 if x1.pars==0 then
 if x1.inds==0 then
 if x1.level==0 then
 if (List.length x1.cons:Int)==0 then
 some ((List.length x1.fields:Int)==0)
 else
 some false
 else
 some false
 else
 some false
 else
 some false
 else
 some false
 else
 some false
 else
 some false
 else
 if x1.kind != 2 then
 if x1.kind != 4 then
 some false
 else
 e142 qq p0 p1>>=fun r26=>
 if r26 then
 if x1.kind==2 then
 if decide ((List.length r9:Int)≤24)then
 if decide ((List.length r9:Int)≥x1.pars)then
 e86 qq x1.type>>=fun r32=>
 gidx p0 x1.fam>>=fun x34=>
 e87 qq r32 x1.fam x1.pars x34.inds (List.length r9:Int)>>=fun r36=>
 some r36
 else
 some false
 else
 some false
 else
 if decide ((w64 (x1.pars+1))≤24)then
 if decide ((List.length r9:Int)≥(w64 (x1.pars+1)))then
 gidx r9 x1.pars>>=fun x40=>
 e87 qq x40 x1.fam x1.pars 0 x1.pars>>=fun r42=>
 some r42
 else
 some false
 else
 some false
 else
 some false
 else
 e142 qq p0 p1>>=fun r44=>
 if r44 then
 if x1.kind==2 then
 if decide ((List.length r9:Int)≤24)then
 if decide ((List.length r9:Int)≥x1.pars)then
 e86 qq x1.type>>=fun r50=>
 gidx p0 x1.fam>>=fun x52=>
 e87 qq r50 x1.fam x1.pars x52.inds (List.length r9:Int)>>=fun r54=>
 some r54
 else
 some false
 else
 some false
 else
 if decide ((w64 (x1.pars+1))≤24)then
 if decide ((List.length r9:Int)≥(w64 (x1.pars+1)))then
 gidx r9 x1.pars>>=fun x58=>
 e87 qq x58 x1.fam x1.pars 0 x1.pars>>=fun r60=>
 some r60
 else
 some false
 else
 some false
 else
 some false
 else
 some false
 else
 some false
abbrev K75 (p0:List Ent) (p1:Int) (r:Bool) (C:Cf):Prop:=C 75 [] [slv entL p0 .no,ai p1] (ab r) [] 0
theorem q75:Qf 75 Tryz.f75:=⟨Tryz.func75,by kernel_rfl⟩
theorem k75{p0 p1 r}(h:K75 p0 p1 r Ci):K75 p0 p1 r Ct:=⟨h,⟨⟨tv,dE _⟩,tv,tv⟩,forall_nil,tv,forall_nil⟩
theorem c75{qq p0 p1 r}(h:e75 qq p0 p1=some r):K75 p0 p1 r Ct:=by
 unfold e75 at h
 obtain⟨x1,h2,h⟩:=obind h
 obtain⟨r3,h4,h⟩:=obind h
 have k:=oA 0 (ix22 (o:=.no) h2) o0
 rcases spl h with⟨h5,h⟩|⟨h5,h⟩
 obtain⟨r6,h7,h⟩:=obind h
 have k:=oK 3 [] h5 (c140 h4) k
 rcases spl h with⟨h8,h⟩|⟨h8,h⟩
 obtain⟨r9,h10,h⟩:=obind h
 have k:=oC 2 [] (c79 h10)<|oK 2 [] h8 (c116 h7) k
 rcases spl h with⟨h11,h⟩|⟨h11,h⟩
 obtain⟨r12,h13,h⟩:=obind h
 obtain rfl:=sj h
 exact k75 (tF q75 0 [] (oC 0 [] (c141 h13)<|oB 2 h11 k))
 have k:=oB 2 h11 k
 rcases spl h with⟨h14,h⟩|⟨h14,h⟩
 obtain⟨r15,h16,h⟩:=obind h
 have k:=oB 1 h14 k
 rcases spl h with⟨h17,h⟩|⟨h17,h⟩
 have k:=oK 1 [] h17 (c116 h16) k
 rcases spl h with⟨h18,h⟩|⟨h18,h⟩
 have k:=oB 1 h18 k
 rcases spl h with⟨h19,h⟩|⟨h19,h⟩
 have k:=oB 1 h19 k
 rcases spl h with⟨h20,h⟩|⟨h20,h⟩
 have k:=oB 1 h20 k
 rcases spl h with⟨h21,h⟩|⟨h21,h⟩
 have k:=oB 1 h21 k
 rcases spl h with⟨h22,h⟩|⟨h22,h⟩
 have k:=oB 1 h22 k
 rcases spl h with⟨h23,h⟩|⟨h23,h⟩
 obtain rfl:=sj h
 exact k75 (tF q75 3 [] (oB 2 h23 k))
 obtain rfl:=sj h
 exact k75 (tF q75 0 [] (oB 2 h23 k))
 obtain rfl:=sj h
 exact k75 (tF q75 0 [] (oB 1 h22 k))
 obtain rfl:=sj h
 exact k75 (tF q75 0 [] (oB 1 h21 k))
 obtain rfl:=sj h
 exact k75 (tF q75 0 [] (oB 1 h20 k))
 obtain rfl:=sj h
 exact k75 (tF q75 0 [] (oB 1 h19 k))
 obtain rfl:=sj h
 exact k75 (tF q75 0 [] (oB 1 h18 k))
 obtain rfl:=sj h
 exact k75 (tF q75 0 [] (oK 1 [] h17 (c116 h16) k))
 have k:=oB 1 h14 k
 rcases spl h with⟨h24,h⟩|⟨h24,h⟩
 have k:=oB 1 h24 k
 rcases spl h with⟨h25,h⟩|⟨h25,h⟩
 obtain rfl:=sj h
 exact k75 (tF q75 0 [] (oB 1 h25 k))
 obtain⟨r26,h27,h⟩:=obind h
 have k:=oB 1 h25 k
 rcases spl h with⟨h28,h⟩|⟨h28,h⟩
 have k:=oK 0 [] h28 (c142 h27) k
 rcases spl h with⟨h29,h⟩|⟨h29,h⟩
 have k:=oB 2 h29 k
 rcases spl h with⟨h30,h⟩|⟨h30,h⟩
 have k:=oB 0 h30 k
 rcases spl h with⟨h31,h⟩|⟨h31,h⟩
 obtain⟨r32,h33,h⟩:=obind h
 obtain⟨x34,h35,h⟩:=obind h
 obtain⟨r36,h37,h⟩:=obind h
 obtain rfl:=sj h
 exact k75 (tF q75 0 [] (oC 1 [] (c87 h37)<|oA 3 (ix22 (o:=.no) h35)<|oC 1 [] (c86 h33)<|oB 1 h31 k))
 obtain rfl:=sj h
 exact k75 (tF q75 0 [] (oB 1 h31 k))
 obtain rfl:=sj h
 exact k75 (tF q75 0 [] (oB 0 h30 k))
 have k:=oB 2 h29 k
 rcases spl h with⟨h38,h⟩|⟨h38,h⟩
 have k:=oB 2 h38 k
 rcases spl h with⟨h39,h⟩|⟨h39,h⟩
 obtain⟨x40,h41,h⟩:=obind h
 obtain⟨r42,h43,h⟩:=obind h
 obtain rfl:=sj h
 exact k75 (tF q75 0 [] (oC 4 [] (c87 h43)<|oA 1 (ix23 (o:=.no) h41)<|oC 1 [] (c79 h10)<|oB 2 h39 k))
 obtain rfl:=sj h
 exact k75 (tF q75 0 [] (oB 2 h39 k))
 obtain rfl:=sj h
 exact k75 (tF q75 0 [] (oB 2 h38 k))
 obtain rfl:=sj h
 exact k75 (tF q75 1 [] (oK 0 [] h28 (c142 h27) k))
 obtain⟨r44,h45,h⟩:=obind h
 have k:=oB 1 h24 k
 rcases spl h with⟨h46,h⟩|⟨h46,h⟩
 have k:=oK 0 [] h46 (c142 h45) k
 rcases spl h with⟨h47,h⟩|⟨h47,h⟩
 have k:=oB 2 h47 k
 rcases spl h with⟨h48,h⟩|⟨h48,h⟩
 have k:=oB 0 h48 k
 rcases spl h with⟨h49,h⟩|⟨h49,h⟩
 obtain⟨r50,h51,h⟩:=obind h
 obtain⟨x52,h53,h⟩:=obind h
 obtain⟨r54,h55,h⟩:=obind h
 obtain rfl:=sj h
 exact k75 (tF q75 0 [] (oC 1 [] (c87 h55)<|oA 3 (ix22 (o:=.no) h53)<|oC 1 [] (c86 h51)<|oB 1 h49 k))
 obtain rfl:=sj h
 exact k75 (tF q75 0 [] (oB 1 h49 k))
 obtain rfl:=sj h
 exact k75 (tF q75 0 [] (oB 0 h48 k))
 have k:=oB 2 h47 k
 rcases spl h with⟨h56,h⟩|⟨h56,h⟩
 have k:=oB 2 h56 k
 rcases spl h with⟨h57,h⟩|⟨h57,h⟩
 obtain⟨x58,h59,h⟩:=obind h
 obtain⟨r60,h61,h⟩:=obind h
 obtain rfl:=sj h
 exact k75 (tF q75 0 [] (oC 4 [] (c87 h61)<|oA 1 (ix23 (o:=.no) h59)<|oC 1 [] (c79 h10)<|oB 2 h57 k))
 obtain rfl:=sj h
 exact k75 (tF q75 0 [] (oB 2 h57 k))
 obtain rfl:=sj h
 exact k75 (tF q75 0 [] (oB 2 h56 k))
 obtain rfl:=sj h
 exact k75 (tF q75 1 [] (oK 0 [] h46 (c142 h45) k))
 obtain rfl:=sj h
 exact k75 (tF q75 1 [] (oK 2 [] h8 (c116 h7) k))
 obtain rfl:=sj h
 exact k75 (tF q75 1 [] (oK 3 [] h5 (c140 h4) k))
def e23Ldc:Nat->(List Ent)->Int->Option (Bool)
 |0,_,_=>none
 |qq+1,p0,v3=>
 if decide (v3<(List.length p0:Int))then
 e75 qq p0 v3>>=fun r8=>
 if r8 then
 e23Ldc qq p0 (w64 (v3+1))
 else
 some false
 else
 some true
def e23(qq:Nat)(p0:List Ent):Option (Bool):=
 if decide ((List.length p0:Int)>256)then
 some false
 else
 e74 qq p0>>=fun r2=>
 e73 qq r2>>=fun r4=>
 if r4 then
 e23Ldc qq p0 0
 else
 some false
def g23LdcE0(j:Nat->Value)(p0:List Ent)(v3:Int):=sp j 23 0 [(0,slv entL p0 .no),(3,ai v3)]
def g23LdcS0(p0:List Ent)(v3:Int):LSt:=⟨[],0,[],0,[]⟩
abbrev K23 (p0:List Ent) (r:Bool) (C:Cf):Prop:=C 23 [] [slv entL p0 .no] (ab r) [] 0
theorem q23:Qf 23 Tryz.f23:=⟨Tryz.func23,by kernel_rfl⟩
theorem k23{p0 r}(h:K23 p0 r Ci):K23 p0 r Ct:=⟨h,⟨⟨tv,dE _⟩,tv⟩,forall_nil,tv,forall_nil⟩
theorem l23Ldc:∀qq:Nat,(∀p0 v3 r,e23Ldc qq p0 v3=some r->(∀j,Dl Tryz.prog 0 (inn (inn (rgt (lft (rgt (rgt (bod Tryz.f23))))))) (g23LdcE0 j p0 v3) (g23LdcS0 p0 v3) (frameQ Tryz.prog 0 (FinQ Tryz.prog 0 Tryz.f23 (ab r) [] 0) [.blk 0,.seq (rgt (rgt (rgt (bod Tryz.f23))))]))):=by
 intro qq
 induction qq with
 |zero=>
  exact fun _ _ _ h=>nn h
 |succ qq ih=>
  intro p0 v3 r h
  rw[e23Ldc]at h
  rcases spl h with⟨h7,h⟩|⟨h7,h⟩
  obtain⟨r8,h9,h⟩:=obind h
  have k:=oB 1 h7 o0
  rcases spl h with⟨h10,h⟩|⟨h10,h⟩
  exact fun j=>lH 2 [] [] [] [0,3] (oD (dE p0)<|oK 0 [] h10 (c75 h9) k) (ih _ _ _ h)
  obtain rfl:=sj h
  exact fun j=>lF 1 [] (oK 0 [] h10 (c75 h9) k)
  obtain rfl:=sj h
  exact fun j=>lF 0 [] (oB 1 h7 o0)
theorem c23{qq p0 r}(h:e23 qq p0=some r):K23 p0 r Ct:=by
 unfold e23 at h
 rcases spl h with⟨h1,h⟩|⟨h1,h⟩
 obtain rfl:=sj h
 exact k23 (tF q23 0 [] (oB 1 h1 o0))
 obtain⟨r2,h3,h⟩:=obind h
 obtain⟨r4,h5,h⟩:=obind h
 have k:=oC 0 [] (c74 h3)<|oB 1 h1 o0
 rcases spl h with⟨h6,h⟩|⟨h6,h⟩
 exact k23 (tH q23 1 [] [] [] [0,3] (oD (dE p0)<|oK 0 [] h6 (c73 h5) k) (l23Ldc _ _ _ _ h))
 obtain rfl:=sj h
 exact k23 (tF q23 1 [] (oK 0 [] h6 (c73 h5) k))
def FamsR(l:List Ent)(i:Int):Prop:=∀j,0≤j->j<i->(ent l j).kind=1->RFam l j
theorem closed_sh{t:Tm}{n:Int}(h:closedT' t n=true):shapedT t=true:=by
 unfold closedT' rightT at h
 simp only[Bool.and_eq_true]at h
 exact h.1.1.1
theorem split_tel{t:Tm}(hs:shapedT t=true){L:List Tm}{y:Tm}(h:splT (pisT t) t=some (L,y))(hp:pisT t≤24):wholeT t=(L,y,0):=by
 unfold wholeT splitT
 rw[if_pos hs,if_neg (by omega),if_neg (by omega),show (((min (pisT t) 25:Nat):Int)).toNat=pisT t by omega,h]
 rfl
theorem whole_long{t:Tm}(hp:¬pisT t≤24):(wholeT t).2.2≠0:=by
 unfold wholeT splitT
 rw[show ((min (pisT t) 25:Nat):Int)=25 by omega]
 split
 ·rw[if_neg (by omega),if_pos (by omega)];decide
 ·decide
theorem splT_take:∀(n m:Nat) (t:Tm) (L:List Tm) (y:Tm),goodT t=true->splT n t=some (L,y)->m≤n->∃z,splT m t=some (L.take m,z)
 |_,0,t,L,y,_,h,_=>⟨t,by rw[splT];simp⟩
 |0,m+1,_,_,_,_,_,hm=>by omega
 |n+1,m+1,t,L,y,hg,h,hm=>by
  by_cases h3:t.k=3
  ·obtain⟨a,b,hx,hga,hgb⟩:=pi_form hg h3
   rw[hx,splT_pi]at h
   obtain⟨r',h1,h2⟩:=Option.map_eq_some_iff.1 h
   cases h2
   obtain⟨z,hz⟩:=splT_take n m b r'.1 r'.2 hgb h1 (by omega)
   exact⟨z,by rw[hx,splT_pi,hz];rfl⟩
  ·rw[splT_not h3]at h;cases h
theorem split_pos{t:Tm}(hs:shapedT t=true){L:List Tm}{y:Tm}(h:splT (pisT t) t=some (L,y)){n:Nat}(hn:n≤24):((splitT t n).2.2=0↔n≤pisT t)∧(n≤pisT t->(splitT t n).1=L.take n):=by
 have hg:=(shapedT_spec hs).2.2
 have e:splitT t (n:Int)=splR [] (splT n t):=by
  unfold splitT
  rw[if_pos hs,if_neg (by omega),if_neg (by omega),Int.toNat_natCast]
 rw[e]
 by_cases hp:n≤pisT t
 ·obtain⟨z,hz⟩:=splT_take (pisT t) n t L y hg h hp
  rw[hz]
  exact⟨⟨fun _=>hp,fun _=>rfl⟩,fun _=>by simp[splR]⟩
 ·have hno:splT n t=none:=by
   cases hx:splT n t with
   |none=>rfl
   |some r=>have:=(splT_spec n t r hg hx).2.1;omega
  rw[hno]
  exact⟨⟨fun h=>(by simp[splR]at h),fun h=>absurd h hp⟩,fun h=>absurd h hp⟩
theorem dc_rentry{N:ByteArray->Bool}(hN:NamesBy N)(l:List Ent)(i:Int)(h0:0≤i)(h1:i<l.length)(hl:l.length≤65535)(he:∀e∈l,EOk e)(hF:FamsR l i):Dc (fun q=>e75 q l i) (REnt N l i):=by
 have hx:=he _ (ent_mem h0 h1)
 simp only[e75]
 refine Dc.pure (gidx_ent h0 h1) (Dc.bind (Dc.of (ev_refName hN _)) (fun a1=>?_) fun a1=>Dc.ite (fun h=>(by cases h)) fun _=>Dc.no fun h=>a1 h.1)
 refine Dc.ite (fun _=>?_) fun h=>(by cases h)
 refine Dc.bind (Q:=closedT' (ent l i).type i=true) (Dc.of (ev_rClosed _ i hx.1)) (fun a2=>?_) fun a2=>Dc.ite (fun h=>(by cases h)) fun _=>Dc.no fun h=>a2 h.2.1
 refine Dc.ite (fun _=>?_) fun h=>(by cases h)
 have hs:=closed_sh a2
 have hsp:=shapedT_spec hs
 obtain⟨L,y,hL,hlen,hyk,hyg,hyn,-,hLg⟩:=tel_spec hsp.2.2
 have hpis:=pis_le (ent l i).type.nodes (ent l i).type (Nat.le_refl _)
 have hBene:Evt (fun q=>e86 q (ent l i).type) y:=by simp only[e86];exact ev_Bene _ _ L y hsp.2.2 hL hyk
 refine Dc.evt (ev_Tele hsp.2.2 hsp.1 hL hyk) ?_
 have only:∀ {P:Prop} (n:Int),(ent l i).kind=n->(n=1->(RFam l i↔P))->(n=2->(conT l i=true↔P))->(n=4->(projT l i=true↔P))->(n=3->(defT l i=true↔P))->(¬(n=1∨n=2∨n=3∨n=4)->(False↔P))->(P↔REnt N l i):=fun {P} n hn k1 k2 k4 k3 k0=>by
  unfold REnt
  rw[hn]
  by_cases e1:n=1
  ·rw[←k1 e1];exact⟨fun h=>⟨a1,a2,.inl ⟨e1,h⟩⟩,fun h=>by rcases h.2.2 with h|h|h|h<;>first|exact h.2 | (have:=h.1;omega)⟩
  ·by_cases e2:n=2
   ·rw[←k2 e2];exact⟨fun h=>⟨a1,a2,.inr (.inl ⟨e2,h⟩)⟩,fun h=>by rcases h.2.2 with h|h|h|h<;>first|exact h.2 | (have:=h.1;omega)⟩
   ·by_cases e4:n=4
    ·rw[←k4 e4];exact⟨fun h=>⟨a1,a2,.inr (.inr (.inl ⟨e4,h⟩))⟩,fun h=>by rcases h.2.2 with h|h|h|h<;>first|exact h.2 | (have:=h.1;omega)⟩
    ·by_cases e3:n=3
     ·rw[←k3 e3];exact⟨fun h=>⟨a1,a2,.inr (.inr (.inr ⟨e3,h⟩))⟩,fun h=>by rcases h.2.2 with h|h|h|h<;>first|exact h.2 | (have:=h.1;omega)⟩
     ·rw[←k0 (by omega)];exact⟨False.elim,fun h=>by rcases h.2.2 with h|h|h|h<;>(have:=h.1;omega)⟩
 refine Dc.ite (fun k1=>?_) fun k1=>?_
 ·have k1':(ent l i).kind=1:=by simpa using k1
  have:Dc (fun q=>e141 q l i>>=fun r12=>some r12) (RFam l i):=by
   obtain⟨b,hb,hb'⟩:=dc_rfamily l i h0 h1 hl he
   exact⟨b,hb.bind Evt.ret,hb'⟩
  exact this.iff (only 1 k1' (fun _=>Iff.rfl) (fun h=>by omega) (fun h=>by omega) (fun h=>by omega) (fun h=>absurd (.inl rfl) h))
 have k1':(ent l i).kind≠1:=by simpa using k1
 refine Dc.ite (fun k3=>?_) fun k3=>?_
 ·have k3':(ent l i).kind=3:=by simpa using k3
  have dfn:∀ {P:Prop},(P↔defT l i=true)->(P↔REnt N l i):=fun hP=>hP.trans (only 3 k3' (fun h=>by omega) (fun h=>by omega) (fun h=>by omega) (fun _=>Iff.rfl) (fun h=>absurd (.inr (.inr (.inl rfl))) h))
  have need:defT l i=true->closedT' (ent l i).body i=true∧(ent l i).fam=0∧(ent l i).place=0∧(ent l i).pars=0∧(ent l i).inds=0∧(ent l i).level=0∧(ent l i).cons.length=0∧(ent l i).fields.length=0:=fun h=>by
   unfold defT at h
   simp only[Bool.and_eq_true,decide_eq_true_eq,beq_iff_eq]at h
   exact h
  refine Dc.iff (P:=defT l i=true) ?_ (dfn Iff.rfl)
  refine Dc.bind (Q:=closedT' (ent l i).body i=true) (Dc.of (ev_rClosed _ i hx.2.1)) (fun b1=>?_) fun b1=>Dc.ite (fun h=>(by cases h)) fun _=>Dc.no fun h=>b1 (need h).1
  refine Dc.ite (fun _=>?_) fun h=>(by cases h)
  refine Dc.ite (fun b2=>Dc.ite (fun b3=>Dc.ite (fun b4=>Dc.ite (fun b5=>Dc.ite (fun b6=>Dc.ite (fun b7=>Dc.ret ?_) fun h=>Dc.no fun k=>?_) fun h=>Dc.no fun k=>?_) fun h=>Dc.no fun k=>?_) fun h=>Dc.no fun k=>?_) fun h=>Dc.no fun k=>?_) fun h=>Dc.no fun k=>?_
  ·rw[beq_iff_eq]
   unfold defT
   simp only[beq_iff_eq]at b2 b3 b4 b5 b6 b7
   simp only[Bool.and_eq_true,decide_eq_true_eq,beq_iff_eq]
   exact⟨fun h=>⟨b1,b2,b3,b4,b5,b6,by omega,by omega⟩,fun h=>by have:=h.2.2.2.2.2.2.2;omega⟩
  ·rw[(need k).2.2.2.2.2.2.1]at h;simp at h
  ·rw[(need k).2.2.2.2.2.1]at h;simp at h
  ·rw[(need k).2.2.2.2.1]at h;simp at h
  ·rw[(need k).2.2.2.1]at h;simp at h
  ·rw[(need k).2.2.1]at h;simp at h
  ·rw[(need k).2.1]at h;simp at h
 have k3':(ent l i).kind≠3:=by simpa using k3
 have tail:((ent l i).kind=2∨(ent l i).kind=4)->Dc (fun q=>e142 q l i>>=fun r44=>if r44=true then(if ((ent l i).kind==2)=true then(if decide ((List.length L:Int)≤24)=true then(if decide ((List.length L:Int)≥(ent l i).pars)=true then(e86 q (ent l i).type>>=fun r50=>gidx l (ent l i).fam>>=fun x52=>e87 q r50 (ent l i).fam (ent l i).pars x52.inds (List.length L:Int)>>=fun r54=>some r54)else some false)else some false)
   else(if decide ((w64 ((ent l i).pars+1))≤24)=true then(if decide ((List.length L:Int)≥(w64 ((ent l i).pars+1)))=true then(gidx L (ent l i).pars>>=fun x58=>e87 q x58 (ent l i).fam (ent l i).pars 0 (ent l i).pars>>=fun r60=>some r60)else some false)else some false))else some false) (REnt N l i):=fun h24=>by
  have hown:REnt N l i->ownedT l i=true:=fun h=>by
   rcases h.2.2 with h|h|h|h
   ·exact absurd h.1 k1'
   ·have:=h.2;unfold conT at this;simp only[Bool.and_eq_true]at this;exact this.1
   ·have:=h.2;unfold projT at this;simp only[Bool.and_eq_true]at this;exact this.1
   ·exact absurd h.1 k3'
  refine Dc.bind (dc_rowned l i h0 h1 he h24) (fun ho=>?_) fun ho=>Dc.ite (fun h=>(by cases h)) fun _=>Dc.no fun h=>ho (hown h)
  refine Dc.ite (fun _=>?_) fun h=>(by cases h)
  have how:=ownedT_spec ho
  have hfam:=rfam_spec (hF _ how.1 how.2.1 how.2.2.1)
  refine Dc.ite (fun e2=>?_) fun e2=>?_
  ·have e2':(ent l i).kind=2:=by simpa using e2
   refine Dc.iff (P:=conT l i=true) ?_ (only 2 e2' (fun h=>by omega) (fun _=>Iff.rfl) (fun h=>by omega) (fun h=>by omega) (fun h=>absurd (.inr (.inl rfl)) h))
   refine Dc.ite (fun c1=>?_) fun c1=>Dc.no fun h=>?_
   case refine_2=>
    have:=of_decide_eq_false c1
    have hw:=whole_long (t:=(ent l i).type) (by omega)
    unfold conT at h
    simp only[Bool.and_eq_true,beq_iff_eq]at h
    exact hw h.2.1
   have c1':=of_decide_eq_true c1
   have hw:=split_tel hs hL (by omega)
   have hcon:conT l i=true↔(ent l i).pars≤L.length∧appliedT y (ent l i).fam (ent l i).pars (ent l (ent l i).fam).inds L.length=true:=by
    unfold conT
    rw[hw,ho]
    simp
   refine Dc.iff ?_ hcon.symm
   refine Dc.ite (fun c2=>?_) fun c2=>Dc.no fun h=>?_
   case refine_2=>have:=of_decide_eq_false c2;have:=h.1;omega
   have c2':=of_decide_eq_true c2
   refine Dc.evt hBene (Dc.pure (gidx_ent how.1 (by omega)) ?_)
   obtain⟨b,hb,hb'⟩:=dc_applied y (ent l i).fam (ent l i).pars (ent l (ent l i).fam).inds L.length hyg (by omega) (by omega) (by omega) (by omega)
   exact⟨b,hb.bind Evt.ret,hb'.trans ⟨fun h=>⟨c2',h⟩,fun h=>h.2⟩⟩
  ·have e4':(ent l i).kind=4:=by have:(ent l i).kind≠2:=(by simpa using e2);omega
   refine Dc.iff (P:=projT l i=true) ?_ (only 4 e4' (fun h=>by omega) (fun h=>by omega) (fun _=>Iff.rfl) (fun h=>by omega) (fun h=>absurd (.inr (.inr (.inr rfl))) h))
   rw[w64_id (x:=(ent l i).pars+1) (by omega) (by omega)]
   obtain⟨p,hp⟩:=Int.eq_ofNat_of_zero_le (a:=(ent l i).pars) (by omega)
   have long:¬(ent l i).pars+1≤24->(splitT (ent l i).type ((ent l i).pars+1)).2.2≠0:=fun h=>by
    unfold splitT
    rw[if_pos hs,if_neg (by omega),if_pos (by omega)];decide
   have need:projT l i=true->(splitT (ent l i).type ((ent l i).pars+1)).2.2=0∧appliedT (nth (splitT (ent l i).type ((ent l i).pars+1)).1 (ent l i).pars) (ent l i).fam (ent l i).pars 0 (ent l i).pars=true:=fun h=>by
    unfold projT at h
    simp only[Bool.and_eq_true,beq_iff_eq]at h
    exact h.2
   refine Dc.ite (fun c1=>?_) fun c1=>Dc.no fun h=>long (by simpa using of_decide_eq_false c1) (need h).1
   have c1':=of_decide_eq_true c1
   have hsp2:=split_pos hs hL (n:=p+1) (by omega)
   rw[show ((p+1:Nat):Int)=(ent l i).pars+1 by omega]at hsp2
   refine Dc.ite (fun c2=>?_) fun c2=>Dc.no fun h=>?_
   case refine_2=>have:=of_decide_eq_false c2;have:=hsp2.1.1 (need h).1;omega
   have c2':=of_decide_eq_true c2
   have hpl:p<L.length:=by omega
   have hgx:gidx L (ent l i).pars=some L[p]:=by unfold gidx;rw[if_pos (by omega),hp,Int.toNat_natCast];exact List.getElem?_eq_getElem hpl
   have hnth:nth (splitT (ent l i).type ((ent l i).pars+1)).1 (ent l i).pars=L[p]:=by
    rw[hsp2.2 (by omega)]
    unfold nth
    rw[hp,Int.toNat_natCast,List.getElem?_take,if_pos (by omega),List.getElem?_eq_getElem hpl];rfl
   have hxg:=hLg L[p] (List.getElem_mem hpl)
   refine Dc.pure hgx ?_
   obtain⟨b,hb,hb'⟩:=dc_applied L[p] (ent l i).fam (ent l i).pars 0 (ent l i).pars hxg.1 (by omega) (by omega) (by omega) (by omega)
   refine⟨b,hb.bind Evt.ret,hb'.trans ?_⟩
   unfold projT
   rw[hnth,ho,hsp2.1.2 (by omega)]
   simp
 refine Dc.ite (fun k2=>?_) fun k2=>?_
 ·have k2':(ent l i).kind≠2:=by simpa using k2
  refine Dc.ite (fun k4=>Dc.no fun h=>?_) fun k4=>tail (.inr (by simpa using k4))
  have k4':(ent l i).kind≠4:=by simpa using k4
  rcases h.2.2 with h|h|h|h<;>(have:=h.1;omega)
 ·exact tail (.inl (by simpa using k2))
theorem dc_rFormedL{N:ByteArray->Bool}(hN:NamesBy N)(l:List Ent)(hl:l.length≤65535)(he:∀e∈l,EOk e):∀(m v:Nat),v+m=l.length->FamsR l v->Dc (fun q=>e23Ldc q l (v:Int)) (∀j:Int,v≤j->j<l.length->REnt N l j)
 |0,v,hm,_=>by
  refine Dc.succ ?_
  simp only[e23Ldc]
  exact Dc.ite (fun h=>absurd (of_decide_eq_true h) (by omega)) fun _=>Dc.yes fun j h0 h1=>by omega
 |m+1,v,hm,hF=>by
  refine Dc.succ ?_
  simp only[e23Ldc]
  refine Dc.ite (fun _=>Dc.bind (dc_rentry hN l v (by omega) (by omega) hl he hF) (fun hr=>?_) fun hr=>Dc.ite (fun h=>(by cases h)) fun _=>Dc.no fun h=>hr (h v (Int.le_refl _) (by omega))) fun h=>absurd (of_decide_eq_false h) (by omega)
  refine Dc.ite (fun _=>?_) fun h=>(by cases h)
  rw[w64_nat v (by omega)]
  refine(dc_rFormedL hN l hl he m (v+1) (by omega) fun j h0 h1 hk=>?_).iff ⟨fun h j h0 h1=>?_,fun h j h0 h1=>h j (by omega) h1⟩
  ·by_cases e:j=v
   ·subst e
    rcases hr.2.2 with h|h|h|h
    ·exact h.2
    ·have:=h.1;omega
    ·have:=h.1;omega
    ·have:=h.1;omega
   ·exact hF j h0 (by omega) hk
  ·by_cases e:j=v
   ·subst e;exact hr
   ·exact h j (by omega) h1
theorem ev_rNamesL:∀(r l:List Ent) (v:Nat) (acc:List ByteArray),l.drop v=r->l.length≤65535->acc.length≤v->Evt (fun q=>e74Ldb q l acc (v:Int)) (acc++r.map Ent.name)
 | [],l,v,acc,hd,hl,ha=>by
  refine Evt.succ ?_
  simp only[e74Ldb]
  exact Evt.ifF (drop_nil hd) (Evt.ret.eq (by simp))
 |e::r,l,v,acc,hd,hl,ha=>by
  have hlt:=drop_lt hd
  refine Evt.succ ?_
  simp only[e74Ldb]
  refine Evt.ifT (drop_dec hd) (Evt.pure (drop_idx hd) (Evt.pure (gapp_ok (by simp<;>omega)) ?_))
  rw[w64_nat v (by omega)]
  exact(ev_rNamesL r l (v+1) _ (drop_next hd) hl (by simp<;>omega)).eq (by simp)
theorem all_ent{N:ByteArray->Bool}{l:List Ent}(he:∀e∈l,EOk e):(∀j:Int,0≤j->j<l.length->REnt N l j) ↔ ∀j:Int,0≤j->j<l.length->entryT N l j=true:=by
 have ofP:∀j,0≤j->j<(l.length:Int)->entryT N l j=true->REnt N l j:=fun j h0 h1 h=>by
  have hs:=entryT_spec h
  have hn:N (ent l j).name=true:=by unfold entryT at h;simp only[Bool.and_eq_true]at h;exact h.1
  refine⟨hn,hs.1,?_⟩
  rcases hs.2.2.2.2.2 with k|k|k|k
  ·refine .inl ⟨k,?_⟩
   have hf:=hs.2.1 k
   unfold familyT at hf
   simp only[Bool.and_eq_true,Bool.or_eq_true,decide_eq_true_eq]at hf
   refine⟨hf.1.1.1,hf.1.1.2,hf.1.2,hf.2.imp id fun hd=>?_⟩
   unfold famD at hd
   simp only[Bool.and_eq_true,decide_eq_true_eq,beq_iff_eq]at hd
   obtain⟨⟨⟨⟨⟨d1,d2⟩,d3⟩,d4⟩,d5⟩,d6⟩:=hd
   have hw:wholeT (ent l (j+1)).type=((wholeT (ent l (j+1)).type).1,(wholeT (ent l (j+1)).type).2.1,0):=by rw[←d5]
   have hwo:=wholeT_ok hw
   exact⟨d1,d2,d3,d4,hwo.1,by rw[←hwo.2.1];exact d6⟩
  ·exact .inr (.inl ⟨k,hs.2.2.1 k⟩)
  ·exact .inr (.inr (.inr ⟨k,hs.2.2.2.2.1 k⟩))
  ·exact .inr (.inr (.inl ⟨k,hs.2.2.2.1 k⟩))
 refine⟨fun h j h0 h1=>?_,fun h j h0 h1=>ofP j h0 h1 (h j h0 h1)⟩
 obtain⟨r1,r2,r3⟩:=h j h0 h1
 unfold entryT
 rw[r1,r2]
 rcases r3 with⟨k,hf⟩|⟨k,hf⟩|⟨k,hf⟩|⟨k,hf⟩
 ·rw[if_pos k]
  obtain⟨f1,f2,f3,f4⟩:=hf
  unfold familyT
  rw[f1,f2,f3]
  rcases f4 with f4|⟨d1,d2,d3,d4,d5,d6⟩
  ·simp[f4]
  ·-- the constructor has at most 24 arguments
   have hnext:j+1<l.length∧(ent l (j+1)).kind=2:=by
    have h5:=f3
    unfold famC at h5
    obtain⟨n,hn⟩:∃n,(ent l j).cons=[n]:=by
     rcases hc:(ent l j).cons with _|⟨n,_|⟨m,r⟩⟩
     ·rw[hc]at d2;simp at d2
     ·exact⟨n,rfl⟩
     ·rw[hc]at d2;simp at d2
    rw[hn,runT,memT]at h5
    simp only[Bool.and_eq_true,beq_iff_eq]at h5
    have:=isT_spec h5.2.1.1.1
    have e:n=j+1:=h5.1.2.1
    rw[e]at this
    exact⟨this.2.1,this.2.2⟩
   have hc:conT l (j+1)=true:=by
    rcases(h (j+1) (by omega) hnext.1).2.2 with h|h|h|h
    ·have:=h.1;omega
    ·exact h.2
    ·have:=h.1;omega
    ·have:=h.1;omega
   unfold conT at hc
   simp only[Bool.and_eq_true,beq_iff_eq]at hc
   have hw0:=hc.2.1
   have hw:wholeT (ent l (j+1)).type=((wholeT (ent l (j+1)).type).1,(wholeT (ent l (j+1)).type).2.1,0):=by rw[←hw0]
   have hwo:=wholeT_ok hw
   have hD:famD l j (ent l j)=true:=by
    unfold famD
    simp only[Bool.and_eq_true,decide_eq_true_eq,beq_iff_eq]
    exact⟨⟨⟨⟨⟨d1,d2⟩,d3⟩,d4⟩,hw0⟩,by rw[hwo.2.1];exact d6⟩
   rw[hD];simp
 ·rw[if_neg (by omega),if_pos k,hf];rfl
 ·rw[if_neg (by omega),if_neg (by omega),if_pos k,hf];rfl
 ·rw[if_neg (by omega),if_neg (by omega),if_neg (by omega),if_pos k,hf];rfl
theorem ev_refFormed(l:List Ent)(hl:l.length≤65535)(he:∀e∈l,EOk e){b:Bool}(h:Evt (fun q=>e157 q l) b):Evt (fun q=>e23 q l) b:=by
 obtain⟨N,hN⟩:=names_by
 obtain⟨d,hd,hf⟩:=ev_Formed N hN l hl he
 have hb:=hf.det h
 have hRd:=ev_refDist (by simpa using hl) hd
 have key:Dc (fun q=>e23 q l) (formedT N d l=true):=by
  simp only[e23]
  have hNames:Evt (fun q=>e74 q l) (l.map Ent.name):=by simp only[e74];exact(ev_rNamesL l l 0 [] rfl hl (by simp)).eq (by simp)
  have hall:(∀j:Int,((0:Nat):Int)≤j->j<l.length->REnt N l j)↔allE N l l.length 0=true:=by
   refine(show _↔_ from⟨fun h j h0 h1=>h j (by omega) h1,fun h j h0 h1=>h j (by omega) h1⟩:(∀j:Int,((0:Nat):Int)≤j->j<l.length->REnt N l j) ↔ ∀j:Int,0≤j->j<l.length->REnt N l j).trans ((all_ent he).trans ?_)
   have back:∀(m v:Nat),v+m=l.length->((∀j:Int,v≤j->j<l.length->entryT N l j=true)↔allE N l m v=true):=by
    intro m
    induction m with
    |zero=>intro v hv;exact⟨fun _=>rfl,fun _ j h0 h1=>by omega⟩
    |succ m ih=>
     intro v hv
     rw[allE]
     simp only[Bool.and_eq_true]
     rw[←ih (v+1) (by omega)]
     refine⟨fun h=>⟨h v (Int.le_refl _) (by omega),fun j h0 h1=>h j (by omega) h1⟩,fun h j h0 h1=>?_⟩
     by_cases e:j=v
     ·subst e;exact h.1
     ·exact h.2 j (by omega) h1
   exact(show _↔_ from⟨fun h j h0 h1=>h j (by omega) h1,fun h j h0 h1=>h j (by omega) h1⟩:(∀j:Int,0≤j->j<l.length->entryT N l j=true) ↔ ∀j:Int,((0:Nat):Int)≤j->j<l.length->entryT N l j=true).trans (back l.length 0 (by omega))
  unfold formedT
  refine Dc.ite (fun h=>Dc.no ?_) fun h=>Dc.evt hNames (Dc.evt hRd ?_)
  ·have:=of_decide_eq_true h;rw[decide_eq_false (by omega)];simp
  ·have:=of_decide_eq_false h
   rw[decide_eq_true (by omega)]
   cases d with
   |false=>exact Dc.ite (fun h=>(by cases h)) fun _=>Dc.no (by simp)
   |true=>
    refine Dc.ite (fun _=>?_) fun h=>(by cases h)
    exact(dc_rFormedL hN l hl he l.length 0 (by omega) fun j h0 h1=>by omega).iff (hall.trans (by simp))
 obtain⟨b',h1,h2⟩:=key
 refine h1.eq ?_
 rw[←hb]
 rw[Bool.eq_iff_iff];exact h2
def e31Ldd:Nat->Ent->Ent->(List Tm)->(List Tm)->Int->(List Rec')->Option (Con')
 |0,_,_,_,_,_,_=>none
 |qq+1,x1,x3,x7,x13,v9,vb3_2=>
 if decide (v9<(List.length x7:Int))then
 gidx x7 v9>>=fun x16=>
 e79 qq x16>>=fun r18=>
 if decide ((List.length r18:Int)≤24)then
 e86 qq x16>>=fun r21=>
 e87 qq r21 x1.fam x3.pars x3.inds (w64 ((w64 (x1.pars+v9))+(List.length r18:Int)))>>=fun r23=>
 if r23 then
 e78 qq r21>>=fun r26=>
 gsl r26 x3.pars (List.length r26:Int)>>=fun x28=>
 gapp 56 vb3_2 [(Rec'.mk true r18 x28)]>>=fun l30=>
 e31Ldd qq x1 x3 x7 x13 (w64 (v9+1)) l30
 else
 gapp 56 vb3_2 [(Rec'.mk false [] [])]>>=fun l32=>
 e31Ldd qq x1 x3 x7 x13 (w64 (v9+1)) l32
 else
 gapp 56 vb3_2 [(Rec'.mk false [] [])]>>=fun l35=>
 e31Ldd qq x1 x3 x7 x13 (w64 (v9+1)) l35
 else
 some (Con'.mk x7 x13 vb3_2)
def e31(qq:Nat)(p0:List Ent)(p1:Int):Option (Con'):=
 gidx p0 p1>>=fun x1=>
 gidx p0 x1.fam>>=fun x3=>
 e79 qq x1.type>>=fun r5=>
 gsl r5 x1.pars (List.length r5:Int)>>=fun x7=>
 e86 qq x1.type>>=fun r9=>
 e78 qq r9>>=fun r11=>
 gsl r11 x1.pars (List.length r11:Int)>>=fun x13=>
 e31Ldd qq x1 x3 x7 x13 0 []
def g31LddE0(j:Nat->Value)(x1 x3:Ent)(x7 x13:List Tm)(v9:Int)(vb3_2:List Rec'):=sp j 88 0 [(4,.mp 0 0),(5,.mp 1 0),(6,.mp 2 0),(8,.mp 3 0),(9,ai v9)]
def g31LddS0(x1 x3:Ent)(x7 x13:List Tm)(v9:Int)(vb3_2:List Rec'):LSt:=⟨[(0,.cells [slv tmCells ([]:List Tm) .nl,slv tmCells ([]:List Tm) .nl,slv recL ([]:List Rec') .nl]),(1,.cells [ai x1.kind,at' x1.name,ai x1.type.k,ai x1.type.n,slv tmCells x1.type.sub .no,ai x1.body.k,ai x1.body.n,slv tmCells x1.body.sub .no,ai x1.fam,ai x1.place,ai x1.pars,ai x1.inds,ai x1.level,slv intC x1.cons .no,slv intC x1.fields .no]),(2,.cells [ai x3.kind,at' x3.name,ai x3.type.k,ai x3.type.n,slv tmCells x3.type.sub .no,ai x3.body.k,ai x3.body.n,slv tmCells x3.body.sub .no,ai x3.fam,ai x3.place,ai x3.pars,ai x3.inds,ai x3.level,slv intC x3.cons .no,slv intC x3.fields .no]),(3,.cells [slv tmCells x7 .no,slv tmCells x13 .no,slv recL vb3_2 (.st 0 3)])],4,[0],1,[]⟩
abbrev K31 (p0:List Ent) (p1:Int) (r:Con') (C:Cf):Prop:=C 31 [] [slv entL p0 .no,ai p1] (conA r) [] 0
theorem q31:Qf 31 Tryz.f31:=⟨Tryz.func31,by kernel_rfl⟩
theorem k31{p0 p1 r}(h:K31 p0 p1 r Ci):K31 p0 p1 r Ct:=⟨h,⟨⟨tv,dE _⟩,tv,tv⟩,forall_nil,⟨dT _,dT _,dR _,tv⟩,forall_nil⟩
theorem l31Ldd:∀qq:Nat,(∀x1 x3 x7 x13 v9 vb3_2 r,e31Ldd qq x1 x3 x7 x13 v9 vb3_2=some r->(∀j,Dl Tryz.prog 0 (inn (inn (rgt (lft (rgt (rgt (rgt (rgt (rgt (bod Tryz.f31)))))))))) (g31LddE0 j x1 x3 x7 x13 v9 vb3_2) (g31LddS0 x1 x3 x7 x13 v9 vb3_2) (frameQ Tryz.prog 0 (FinQ Tryz.prog 0 Tryz.f31 (conA r) [] 0) [.blk 0,.seq (rgt (rgt (rgt (rgt (rgt (rgt (bod Tryz.f31)))))))]))):=by
 intro qq
 induction qq with
 |zero=>
  exact fun _ _ _ _ _ _ _ h=>nn h
 |succ qq ih=>
  intro x1 x3 x7 x13 v9 vb3_2 r h
  rw[e31Ldd]at h
  rcases spl h with⟨h15,h⟩|⟨h15,h⟩
  obtain⟨x16,h17,h⟩:=obind h
  obtain⟨r18,h19,h⟩:=obind h
  have k:=oC 3 [] (c79 h19)<|oA 1 (ix23 (o:=.no) h17)<|oB 2 h15 o0
  rcases spl h with⟨h20,h⟩|⟨h20,h⟩
  obtain⟨r21,h22,h⟩:=obind h
  obtain⟨r23,h24,h⟩:=obind h
  have k:=oC 1 [] (c86 h22)<|oB 2 h20 k
  rcases spl h with⟨h25,h⟩|⟨h25,h⟩
  obtain⟨r26,h27,h⟩:=obind h
  obtain⟨x28,h29,h⟩:=obind h
  obtain⟨l30,h31,h⟩:=obind h
  exact fun j=>lH 2 [] [0,1,2,3] [2] [4,5,6,8,9] (oD (dR l30)<|oD (dT x13)<|oD (dT x7)<|oD (dI x3.fields)<|oD (dI x3.cons)<|oD (dT x3.body.sub)<|oD (dT x3.type.sub)<|oD (dI x1.fields)<|oD (dI x1.cons)<|oD (dT x1.body.sub)<|oD (dT x1.type.sub)<|oD (dR ([]:List Rec'))<|oD (dT ([]:List Tm))<|oD (dT ([]:List Tm))<|oP 4 (apS55 h31 (by simp))<|oF 1 (slFromO23 (o:=(.st 1 3)) h29)<|oC 0 [] (c78 h27)<|oC 1 [] (c86 h22)<|oK 7 [] h25 (c87 h24) k) (ih _ _ _ _ _ _ _ h)
  obtain⟨l32,h33,h⟩:=obind h
  have k:=oK 7 [] h25 (c87 h24) k
  by_cases h34:List.length [(Rec'.mk false [] [])]=0
  exact fun j=>lH 2 [] [0,1,2,3] [0] [4,5,6,8,9] (oD (dR l32)<|oD (dT x13)<|oD (dT x7)<|oD (dI x3.fields)<|oD (dI x3.cons)<|oD (dT x3.body.sub)<|oD (dT x3.type.sub)<|oD (dI x1.fields)<|oD (dI x1.cons)<|oD (dT x1.body.sub)<|oD (dT x1.type.sub)<|oD (dR ([]:List Rec'))<|oD (dT ([]:List Tm))<|oD (dT ([]:List Tm))<|oP 3 (apN55 h33 h34) k) (ih _ _ _ _ _ _ _ h)
  exact fun j=>lH 2 [] [0,1,2,3] [1] [4,5,6,8,9] (oD (dR l32)<|oD (dT x13)<|oD (dT x7)<|oD (dI x3.fields)<|oD (dI x3.cons)<|oD (dT x3.body.sub)<|oD (dT x3.type.sub)<|oD (dI x1.fields)<|oD (dI x1.cons)<|oD (dT x1.body.sub)<|oD (dT x1.type.sub)<|oD (dR ([]:List Rec'))<|oD (dT ([]:List Tm))<|oD (dT ([]:List Tm))<|oP 3 (apS55 h33 h34) k) (ih _ _ _ _ _ _ _ h)
  obtain⟨l35,h36,h⟩:=obind h
  have k:=oB 2 h20 k
  by_cases h37:List.length [(Rec'.mk false [] [])]=0
  exact fun j=>lH 2 [] [0,1,2,3] [0] [4,5,6,8,9] (oD (dR l35)<|oD (dT x13)<|oD (dT x7)<|oD (dI x3.fields)<|oD (dI x3.cons)<|oD (dT x3.body.sub)<|oD (dT x3.type.sub)<|oD (dI x1.fields)<|oD (dI x1.cons)<|oD (dT x1.body.sub)<|oD (dT x1.type.sub)<|oD (dR ([]:List Rec'))<|oD (dT ([]:List Tm))<|oD (dT ([]:List Tm))<|oP 3 (apN55 h36 h37) k) (ih _ _ _ _ _ _ _ h)
  exact fun j=>lH 2 [] [0,1,2,3] [1] [4,5,6,8,9] (oD (dR l35)<|oD (dT x13)<|oD (dT x7)<|oD (dI x3.fields)<|oD (dI x3.cons)<|oD (dT x3.body.sub)<|oD (dT x3.type.sub)<|oD (dI x1.fields)<|oD (dI x1.cons)<|oD (dT x1.body.sub)<|oD (dT x1.type.sub)<|oD (dR ([]:List Rec'))<|oD (dT ([]:List Tm))<|oD (dT ([]:List Tm))<|oP 3 (apS55 h36 h37) k) (ih _ _ _ _ _ _ _ h)
  obtain rfl:=sj h
  exact fun j=>lF 2 [] (oD (dR vb3_2)<|oD (dT x13)<|oD (dT x7)<|oB 2 h15 o0)
theorem c31{qq p0 p1 r}(h:e31 qq p0 p1=some r):K31 p0 p1 r Ct:=by
 unfold e31 at h
 obtain⟨x1,h2,h⟩:=obind h
 obtain⟨x3,h4,h⟩:=obind h
 obtain⟨r5,h6,h⟩:=obind h
 obtain⟨x7,h8,h⟩:=obind h
 obtain⟨r9,h10,h⟩:=obind h
 obtain⟨r11,h12,h⟩:=obind h
 obtain⟨x13,h14,h⟩:=obind h
 exact k31 (tH q31 1 [(some 3,2,3)] [0,1,2,3] [1] [4,5,6,8,9] (oD (dR ([]:List Rec'))<|oD (dT x13)<|oD (dT x7)<|oD (dI x3.fields)<|oD (dI x3.cons)<|oD (dT x3.body.sub)<|oD (dT x3.type.sub)<|oD (dI x1.fields)<|oD (dI x1.cons)<|oD (dT x1.body.sub)<|oD (dT x1.type.sub)<|oD (dR ([]:List Rec'))<|oD (dT ([]:List Tm))<|oD (dT ([]:List Tm))<|oF 1 (slFromO23 (o:=(.st 0 3)) h14)<|oC 0 [] (c78 h12)<|oC 1 [] (c86 h10)<|oA 1 (slFrom23 h8)<|oC 3 [] (c79 h6)<|oA 3 (ix22 (o:=.no) h4)<|oA 0 (ix22 (o:=.no) h2) o0) (l31Ldd _ _ _ _ _ _ _ _ h))
theorem ev_rTele2{t:Tm}(hs:shapedT t=true):∃L y,splT (pisT t) t=some (L,y)∧L.length=pisT t∧goodT y=true∧y.nodes≤8192∧shapedT y=true∧(∀x∈L,shapedT x=true)∧Evt (fun q=>e79 q t) L∧Evt (fun q=>e86 q t) y:=by
 have hsp:=shapedT_spec hs
 obtain⟨L,y,hL,hlen,hyk,hyg,hyn,hyh,hLg⟩:=tel_spec hsp.2.2
 refine⟨L,y,hL,hlen,hyg,by omega,shapedT_of (by omega) (by omega) hyg,fun x hx=>?_,ev_Tele hsp.2.2 hsp.1 hL hyk,?_⟩
 ·have:=hLg x hx;exact shapedT_of (by omega) (by omega) this.1
 ·simp only[e86];exact ev_Bene _ _ L y hsp.2.2 hL hyk
theorem ev_rPartsL(l:List Ent)(x d:Ent)(A I:List Tm)(hA:∀t∈A,shapedT t=true)(hl:A.length≤24)(hd:d=ent l x.fam)(hp:0≤d.pars∧0≤d.inds∧d.pars+d.inds≤24)(hb:0≤x.pars∧x.pars≤24) :
  ∀(r:List Tm) (v:Nat) (acc:List Rec'),A.drop v=r->acc.length≤v->Evt (fun q=>e31Ldd q x d A I (v:Int) acc) (Con'.mk A I (acc++recsT l x.fam r (x.pars+v)))
 | [],v,acc,hdr,ha=>by
  refine Evt.succ ?_
  simp only[e31Ldd]
  exact Evt.ifF (drop_nil hdr) (Evt.ret.eq (by simp[recsT]))
 |t::r,v,acc,hdr,ha=>by
  have hlt:=drop_lt hdr
  have hst:=hA t (List.mem_of_mem_drop (by rw[hdr];simp))
  obtain⟨L,y,hL,hlen,hyg,hyn,hys,-,e1,e2⟩:=ev_rTele2 hst
  have next:∀R,R=recT l t x.fam (x.pars+v)->Evt (fun q=>gapp 56 acc [R]>>=fun l30=>e31Ldd q x d A I (w64 ((v:Int)+1)) l30) (Con'.mk A I (acc++recsT l x.fam (t::r) (x.pars+v))):=fun R hR=>by
   refine Evt.pure (gapp_ok (by simp;omega)) ?_
   rw[w64_nat v (by omega)]
   refine(ev_rPartsL l x d A I hA hl hd hp hb r (v+1) (acc++[R]) (drop_next hdr) (by simp;omega)).eq ?_
   rw[recsT,hR]
   simp only[List.append_assoc,List.cons_append,List.nil_append]
   rw[show x.pars+((v+1:Nat):Int)=x.pars+v+1 by omega]
  have hwl:L.length≤24->wholeT t=(L,y,0):=fun h=>split_tel hst hL (by omega)
  refine Evt.succ ?_
  simp only[e31Ldd]
  refine Evt.ifT (drop_dec hdr) (Evt.pure (drop_idx hdr) (e1.bind ?_))
  by_cases h24:L.length≤24
  ·have hw:=hwl h24
   refine Evt.ifT (decide_eq_true (by omega)) (e2.bind ?_)
   rw[w64_id (x:=x.pars+v) (by omega) (by omega),w64_id (x:=x.pars+v+(L.length:Int)) (by omega) (by omega)]
   obtain⟨b,h1,h2⟩:=dc_applied y x.fam d.pars d.inds (x.pars+v+L.length) hyg hyn (by omega) (by omega) (by omega)
   refine h1.bind ?_
   cases b with
   |true=>
    have hap:=h2.1 rfl
    have hsp:=appliedT_spec hap
    refine Evt.ifT rfl ((ev_rArgs y.nodes y hyg (Nat.le_refl _) hyn).bind (Evt.pure (gsl_from (by omega) (by omega)) (next _ ?_)))
    unfold recT
    rw[hw,←hd,if_pos ⟨rfl,hap⟩]
   |false=>
    refine Evt.ifF rfl (next _ ?_)
    unfold recT
    rw[hw,←hd,if_neg (fun h=>by have:=h2.2 h.2;cases this)]
  ·refine Evt.ifF (decide_eq_false (by omega)) (next _ ?_)
   unfold recT
   rw[if_neg (fun h=>whole_long (t:=t) (by omega) h.1)]
theorem ev_rParts{N:ByteArray->Bool}(l:List Ent)(c:Int)(hE:AllE N l)(h0:0≤c)(h1:c<l.length)(hk:(ent l c).kind=2):Evt (fun q=>e31 q l c) (partsT l c):=by
 obtain⟨A,z,a1,a2,a3,a4,a5,a6,a7,f0,f1,fk,fp,fi,fs,fa,-⟩:=con_facts hE h0 h1 hk
 have hst:=(wholeT_ok a1).1
 obtain⟨L,y,hL,hlen,hyg,hyn,hys,hLs,e1,e2⟩:=ev_rTele2 hst
 have hw:=split_tel hst hL (by omega)
 have hAL:A=L∧z=y:=by rw[a1]at hw;injection hw with p q;injection q with q;exact⟨p,q⟩
 obtain⟨rfl,rfl⟩:=hAL
 have hsp:=appliedT_spec fa
 simp only[e31]
 refine Evt.pure (gidx_ent h0 h1) (Evt.pure (gidx_ent f0 (by omega)) (e1.bind (Evt.pure (gsl_from a6 (by omega)) (e2.bind ((ev_rArgs z.nodes z hyg (Nat.le_refl _) hyn).bind (Evt.pure (gsl_from a6 (by omega)) ?_))))))
 have:=ev_rPartsL l (ent l c) (ent l (ent l c).fam) (A.drop (ent l c).pars.toNat) ((arT z).drop (ent l c).pars.toNat) (fun t ht=>hLs t (List.mem_of_mem_drop ht)) (by rw[List.length_drop];omega) rfl (by omega) (by omega) (A.drop (ent l c).pars.toNat) 0 [] rfl (by simp)
 refine this.eq ?_
 unfold partsT
 rw[a1]
 simp
def e165(qq:Nat)(M:Mach)(p1:Tm):Option (Int×List Tm×Bool):=
 e89 qq p1>>=fun r1=>
 if r1 then
 e123 qq p1>>=fun r4=>
 e230 qq M r4>>=fun r6=>
 some (r6.1,r6.2.1,r6.2.2)
 else
 some (0,[],false)
abbrev K165 (M:Mach) (p1:Tm) (r:Int×List Tm×Bool) (C:Cf):Prop:=C 165 [mB M 1,mR M] [.mp 0 0,tmA p1] (.tup [ai r.1,.sl (flat tmCells r.2.1) (List.length r.2.1) .no,ab r.2.2]) [mB M 1,mR M] 0
theorem q165:Qf 165 Tryz.f165:=⟨Tryz.func165,by kernel_rfl⟩
theorem k165{M p1 r}(h:K165 M p1 r Ci):K165 M p1 r Ct:=⟨h,⟨(lz rfl),⟨tv,tv,⟨tv,dT _⟩,tv⟩,tv⟩,(forall_cons ⟨⟨tv,dE _⟩,(lz rfl),⟨tv,dI _⟩,⟨tv,dI _⟩,tv⟩ (forall_cons ⟨⟨tv,dE _⟩,⟨tv,dC _⟩,tv⟩ forall_nil)),⟨tv,dT _,tv,tv⟩,(forall_cons ⟨dE _,(lz rfl),dI _,dI _,tv⟩ (forall_cons ⟨dE _,dC _,tv⟩ forall_nil))⟩
theorem c165{qq M p1 r}(h:e165 qq M p1=some r):K165 M p1 r Ct:=by
 unfold e165 at h
 obtain⟨r1,h2,h⟩:=obind h
 rcases spl h with⟨h3,h⟩|⟨h3,h⟩
 obtain⟨r4,h5,h⟩:=obind h
 obtain⟨r6,h7,h⟩:=obind h
 obtain rfl:=sj h
 exact k165 (tF q165 3 [0,1] (oD (dT r6.2.1)<|oD (dC M.parts)<|oD (dE M.rl)<|oD (dI M.own)<|oD (dI M.args)<|oD (dE M.l)<|oC 0 [0,1] (c230 h7)<|oC 2 [] (c123 h5)<|oK 2 [] h3 (c89 h2) o0))
 obtain rfl:=sj h
 exact k165 (tF q165 1 [0,1] (oD (dT ([]:List Tm))<|oD (dC M.parts)<|oD (dE M.rl)<|oD (dI M.own)<|oD (dI M.args)<|oD (dE M.l)<|oK 2 [] h3 (c89 h2) o0))
def e68(qq:Nat)(M:Mach)(p1:Tm)(fl fu:Int):Option (Tm×Int×Int×Int):=
 e136 qq M fl fu 0 p1>>=fun r1=>
 if r1.2.1 != 0 then
 some ((Tm.mk 0 0 []),r1.2.1,r1.2.2.1,r1.2.2.2)
 else
 e89 qq r1.1>>=fun r4=>
 if r4 then
 some (r1.1,0,r1.2.2.1,r1.2.2.2)
 else
 some ((Tm.mk 0 0 []),2,r1.2.2.1,r1.2.2.2)
abbrev K68 (M:Mach) (p1:Tm) (fl fu:Int) (r:Tm×Int×Int×Int) (C:Cf):Prop:=C 68 [mB M 1,mR M,.cells [ai fl,ai fu]] [.mp 0 0,tmA p1,.mp 2 0] (.tup [tmA r.1,ai r.2.1]) [mB M 1,mR M,.cells [ai r.2.2.1,ai r.2.2.2]] 0
theorem q68:Qf 68 Tryz.f68:=⟨Tryz.func68,by kernel_rfl⟩
theorem k68{M p1 fl fu r}(h:K68 M p1 fl fu r Ci):K68 M p1 fl fu r Ct:=⟨h,⟨(lz rfl),⟨tv,tv,⟨tv,dT _⟩,tv⟩,(lz rfl),tv⟩,(forall_cons ⟨⟨tv,dE _⟩,(lz rfl),⟨tv,dI _⟩,⟨tv,dI _⟩,tv⟩ (forall_cons ⟨⟨tv,dE _⟩,⟨tv,dC _⟩,tv⟩ (forall_cons ⟨tv,tv,tv⟩ forall_nil))),⟨⟨tv,tv,dT _,tv⟩,tv,tv⟩,(forall_cons ⟨dE _,(lz rfl),dI _,dI _,tv⟩ (forall_cons ⟨dE _,dC _,tv⟩ (forall_cons ⟨tv,tv,tv⟩ forall_nil)))⟩
theorem c68{qq M p1 fl fu r}(h:e68 qq M p1 fl fu=some r):K68 M p1 fl fu r Ct:=by
 unfold e68 at h
 obtain⟨r1,h2,h⟩:=obind h
 have k:=oC 1 [5,0,1,2] (c136 h2) o0
 rcases spl h with⟨h3,h⟩|⟨h3,h⟩
 obtain rfl:=sj h
 exact k68 (tF q68 2 [0,1,2] (oD (dT ([]:List Tm))<|oD (dC M.parts)<|oD (dE M.rl)<|oD (dI M.own)<|oD (dI M.args)<|oD (dE M.l)<|oB 2 h3 k))
 obtain⟨r4,h5,h⟩:=obind h
 have k:=oB 2 h3 k
 rcases spl h with⟨h6,h⟩|⟨h6,h⟩
 obtain rfl:=sj h
 exact k68 (tF q68 3 [0,1,2] (oD (dT r1.1.sub)<|oD (dC M.parts)<|oD (dE M.rl)<|oD (dI M.own)<|oD (dI M.args)<|oD (dE M.l)<|oK 1 [] h6 (c89 h5) k))
 obtain rfl:=sj h
 exact k68 (tF q68 2 [0,1,2] (oD (dT ([]:List Tm))<|oD (dC M.parts)<|oD (dE M.rl)<|oD (dI M.own)<|oD (dI M.args)<|oD (dE M.l)<|oK 1 [] h6 (c89 h5) k))
def e68vaca(qq:Nat)(q0 q1:List Ent)(q2:List Con')(q3 q4:List Int)(p1:Tm):Option (Tm×Int):=
 none
abbrev K68vaca (q0 q1:List Ent) (q2:List Con') (q3 q4:List Int) (p1:Tm) (r:Tm×Int) (C:Cf):Prop:=C 68 [.cells [slv entL q0 .no,.mp 1 0,slv intC q3 .no,slv intC q4 .no],.cells [slv entL q1 .no,slv conL q2 .no]] [.mp 0 0,tmA p1,.val (.pointer none)] (.tup [tmA r.1,ai r.2]) [.cells [slv entL q0 .no,.mp 1 0,slv intC q3 .no,slv intC q4 .no],.cells [slv entL q1 .no,slv conL q2 .no]] 0
theorem c68vaca{qq q0 q1 q2 q3 q4 p1 r}(h:e68vaca qq q0 q1 q2 q3 q4 p1=some r):K68vaca q0 q1 q2 q3 q4 p1 r Ct:=by
 unfold e68vaca at h
 cases h
def e68vacb(qq:Nat)(p1:Tm):Option (Tm×Int):=
 none
abbrev K68vacb (p1:Tm) (r:Tm×Int) (C:Cf):Prop:=C 68 [] [.val (.pointer none),tmA p1,.val (.pointer none)] (.tup [tmA r.1,ai r.2]) [] 0
theorem c68vacb{qq p1 r}(h:e68vacb qq p1=some r):K68vacb p1 r Ct:=by
 unfold e68vacb at h
 cases h
def e68vacc(qq:Nat)(p1:Tm)(q1 q2:Int):Option (Tm×Int):=
 none
abbrev K68vacc (p1:Tm) (q1 q2:Int) (r:Tm×Int) (C:Cf):Prop:=C 68 [.cells [ai q1,ai q2]] [.val (.pointer none),tmA p1,.mp 0 0] (.tup [tmA r.1,ai r.2]) [.cells [ai q1,ai q2]] 0
theorem c68vacc{qq p1 q1 q2 r}(h:e68vacc qq p1 q1 q2=some r):K68vacc p1 q1 q2 r Ct:=by
 unfold e68vacc at h
 cases h
def e16(qq:Nat)(p0:List Ent)(p1:Tm)(p2:Int):Option (Tm×Int×Int):=
 e37 qq p0>>=fun r1=>
 match r1 with
 |Sum.inl y21=>
  if y21 != 0 then
  some ((Tm.mk 0 0 []),0,y21)
  else
  e45 qq p2>>=fun r23=>
  match r23 with
  |Sum.inl y32=>
   if y32 != 0 then
   some ((Tm.mk 0 0 []),0,y32)
   else
   e68vacb qq p1>>=fun r34=>
   if r34.2 != 0 then
   some ((Tm.mk 0 0 []),0,r34.2)
   else
   e48vabz qq>>=fun r37=>
   some (r34.1,r37,0)
  |Sum.inr y25=>
   if y25.1 != 0 then
   some ((Tm.mk 0 0 []),0,y25.1)
   else
   e68vacc qq p1 y25.2.1 y25.2.2>>=fun r27=>
   if r27.2 != 0 then
   some ((Tm.mk 0 0 []),0,r27.2)
   else
   e48 qq y25.2.1 y25.2.2>>=fun r30=>
   some (r27.1,r30,0)
 |Sum.inr y3=>
  if y3.1 != 0 then
  some ((Tm.mk 0 0 []),0,y3.1)
  else
  e45 qq p2>>=fun r5=>
  match r5 with
  |Sum.inl y14=>
   if y14 != 0 then
   some ((Tm.mk 0 0 []),0,y14)
   else
   e68vaca qq y3.2.1 y3.2.2.2.2.1 y3.2.2.2.2.2 y3.2.2.1 y3.2.2.2.1 p1>>=fun r16=>
   if r16.2 != 0 then
   some ((Tm.mk 0 0 []),0,r16.2)
   else
   e48vabz qq>>=fun r19=>
   some (r16.1,r19,0)
  |Sum.inr y7=>
   if y7.1 != 0 then
   some ((Tm.mk 0 0 []),0,y7.1)
   else
   e68 qq (Mach.mk y3.2.1 y3.2.2.2.2.1 y3.2.2.2.2.2 y3.2.2.1 y3.2.2.2.1) p1 y7.2.1 y7.2.2>>=fun r9=>
   if r9.2.1 != 0 then
   some ((Tm.mk 0 0 []),0,r9.2.1)
   else
   e48 qq r9.2.2.1 r9.2.2.2>>=fun r12=>
   some (r9.1,r12,0)
abbrev K16 (p0:List Ent) (p1:Tm) (p2:Int) (r:Tm×Int×Int) (C:Cf):Prop:=C 16 [] [slv entL p0 .no,tmA p1,ai p2] (.tup [tmA r.1,ai r.2.1,ai r.2.2]) [] 0
theorem q16:Qf 16 Tryz.f16:=⟨Tryz.func16,by kernel_rfl⟩
theorem k16{p0 p1 p2 r}(h:K16 p0 p1 p2 r Ci):K16 p0 p1 p2 r Ct:=⟨h,⟨⟨tv,dE _⟩,⟨tv,tv,⟨tv,dT _⟩,tv⟩,tv,tv⟩,forall_nil,⟨⟨tv,tv,dT _,tv⟩,tv,tv,tv⟩,forall_nil⟩
theorem c16{qq p0 p1 p2 r}(h:e16 qq p0 p1 p2=some r):K16 p0 p1 p2 r Ct:=by
 unfold e16 at h
 obtain⟨r1,h2,h⟩:=obind h
 rcases r1 with y21|y3
 dsimp only at h
 have k:=oC 0 [] (c37 h2) o0
 rcases spl h with⟨h22,h⟩|⟨h22,h⟩
 obtain rfl:=sj h
 exact k16 (tF q16 1 [] (oD (dT ([]:List Tm))<|oB 2 h22 k))
 obtain⟨r23,h24,h⟩:=obind h
 have k:=oB 2 h22 k
 rcases r23 with y32|y25
 dsimp only at h
 have k:=oC 0 [] (c45 h24) k
 rcases spl h with⟨h33,h⟩|⟨h33,h⟩
 obtain rfl:=sj h
 exact k16 (tF q16 1 [] (oD (dT ([]:List Tm))<|oB 2 h33 k))
 obtain⟨r34,h35,h⟩:=obind h
 have k:=oC 1 [] (c68vacb h35)<|oB 2 h33 k
 rcases spl h with⟨h36,h⟩|⟨h36,h⟩
 obtain rfl:=sj h
 exact k16 (tF q16 1 [] (oD (dT ([]:List Tm))<|oB 3 h36 k))
 obtain⟨r37,h38,h⟩:=obind h
 obtain rfl:=sj h
 exact k16 (tF q16 1 [] (oD (dT r34.1.sub)<|oC 1 [] (c48vabz h38)<|oB 3 h36 k))
 dsimp only at h
 have k:=oC 0 [] (c45 h24) k
 rcases spl h with⟨h26,h⟩|⟨h26,h⟩
 obtain rfl:=sj h
 exact k16 (tF q16 1 [] (oD (dT ([]:List Tm))<|oB 2 h26 k))
 obtain⟨r27,h28,h⟩:=obind h
 have k:=oC 1 [2] (c68vacc h28)<|oB 2 h26 k
 rcases spl h with⟨h29,h⟩|⟨h29,h⟩
 obtain rfl:=sj h
 exact k16 (tF q16 1 [] (oD (dT ([]:List Tm))<|oB 3 h29 k))
 obtain⟨r30,h31,h⟩:=obind h
 obtain rfl:=sj h
 exact k16 (tF q16 1 [] (oD (dT r27.1.sub)<|oC 1 [2] (c48 h31)<|oB 3 h29 k))
 dsimp only at h
 have k:=oC 0 [] (c37 h2) o0
 rcases spl h with⟨h4,h⟩|⟨h4,h⟩
 obtain rfl:=sj h
 exact k16 (tF q16 1 [] (oD (dT ([]:List Tm))<|oB 2 h4 k))
 obtain⟨r5,h6,h⟩:=obind h
 have k:=oB 2 h4 k
 rcases r5 with y14|y7
 dsimp only at h
 have k:=oC 0 [] (c45 h6) k
 rcases spl h with⟨h15,h⟩|⟨h15,h⟩
 obtain rfl:=sj h
 exact k16 (tF q16 1 [] (oD (dT ([]:List Tm))<|oB 2 h15 k))
 obtain⟨r16,h17,h⟩:=obind h
 have k:=oC 1 [2,3] (c68vaca h17)<|oB 2 h15 k
 rcases spl h with⟨h18,h⟩|⟨h18,h⟩
 obtain rfl:=sj h
 exact k16 (tF q16 1 [] (oD (dT ([]:List Tm))<|oB 3 h18 k))
 obtain⟨r19,h20,h⟩:=obind h
 obtain rfl:=sj h
 exact k16 (tF q16 1 [] (oD (dT r16.1.sub)<|oC 1 [] (c48vabz h20)<|oB 3 h18 k))
 dsimp only at h
 have k:=oC 0 [] (c45 h6) k
 rcases spl h with⟨h8,h⟩|⟨h8,h⟩
 obtain rfl:=sj h
 exact k16 (tF q16 1 [] (oD (dT ([]:List Tm))<|oB 2 h8 k))
 obtain⟨r9,h10,h⟩:=obind h
 have k:=oC 1 [2,3,4] (c68 h10)<|oB 2 h8 k
 rcases spl h with⟨h11,h⟩|⟨h11,h⟩
 obtain rfl:=sj h
 exact k16 (tF q16 1 [] (oD (dT ([]:List Tm))<|oB 3 h11 k))
 obtain⟨r12,h13,h⟩:=obind h
 obtain rfl:=sj h
 exact k16 (tF q16 1 [] (oD (dT r9.1.sub)<|oC 1 [4] (c48 h13)<|oB 3 h11 k))
mutual
def e91:Nat->Mach->Tm->Option (Bool)
 |0,_,_=>none
 |qq+1,M,p1=>
 e45 qq 0>>=fun r1=>
 match r1 with
 |Sum.inl y11=>
  e69vaca qq M.l M.rl M.parts M.args M.own p1>>=fun r12=>
  if r12.2 != 0 then
  some false
  else
  if p1.k==5 then
  e167 qq p1>>=fun r16=>
  e91Lde qq M r16.2 (List.length r16.2:Int) 0
  else
  if p1.k==7 then
  some true
  else
  e91Lde qq M p1.sub (List.length p1.sub:Int) 0
 |Sum.inr y3=>
  e69 qq M p1 y3.2.1 y3.2.2>>=fun r4=>
  if r4.2.1 != 0 then
  some false
  else
  if p1.k==5 then
  e167 qq p1>>=fun r8=>
  e91Lde qq M r8.2 (List.length r8.2:Int) 0
  else
  if p1.k==7 then
  some true
  else
  e91Lde qq M p1.sub (List.length p1.sub:Int) 0
def e91Lde:Nat->Mach->(List Tm)->Int->Int->Option (Bool)
 |0,_,_,_,_=>none
 |qq+1,M,v38,v39,v40=>
 if decide (v40<v39)then
 gidx v38 v40>>=fun x11=>
 e91 qq M x11>>=fun r13=>
 if r13 then
 e91Lde qq M v38 v39 (w64 (v40+1))
 else
 some false
 else
 some true
end
def g91LdeE0(j:Nat->Value)(M:Mach)(v38:List Tm)(v39 v40:Int):=sp j 49 0 [(0,.mp 0 0),(38,slv tmCells v38 .no),(39,ai v39),(40,ai v40)]
def g91LdeS0(M:Mach)(v38:List Tm)(v39 v40:Int):LSt:=⟨[(0,mB M 1),(1,mR M)],2,[],0,[]⟩
abbrev K91 (M:Mach) (p1:Tm) (r:Bool) (C:Cf):Prop:=C 91 [mB M 1,mR M] [.mp 0 0,tmA p1] (ab r) [mB M 1,mR M] 0
theorem q91:Qf 91 Tryz.f91:=⟨Tryz.func91,by kernel_rfl⟩
theorem k91{M p1 r}(h:K91 M p1 r Ci):K91 M p1 r Ct:=⟨h,⟨(lz rfl),⟨tv,tv,⟨tv,dT _⟩,tv⟩,tv⟩,(forall_cons ⟨⟨tv,dE _⟩,(lz rfl),⟨tv,dI _⟩,⟨tv,dI _⟩,tv⟩ (forall_cons ⟨⟨tv,dE _⟩,⟨tv,dC _⟩,tv⟩ forall_nil)),tv,(forall_cons ⟨dE _,(lz rfl),dI _,dI _,tv⟩ (forall_cons ⟨dE _,dC _,tv⟩ forall_nil))⟩
theorem a91_91Lde:∀qq:Nat,(∀M p1 r,e91 qq M p1=some r->K91 M p1 r Ct)∧(∀M v38 v39 v40 r,e91Lde qq M v38 v39 v40=some r->(∀j,Dl Tryz.prog 2 (inn (inn (rgt (lft (rgt (rgt (rgt (rgt (rgt (bod Tryz.f91)))))))))) (g91LdeE0 j M v38 v39 v40) (g91LdeS0 M v38 v39 v40) (frameQ Tryz.prog 2 (FinQ Tryz.prog 2 Tryz.f91 (ab r) [mB M 1,mR M] 0) [.blk 1,.seq (rgt (rgt (rgt (rgt (rgt (rgt (bod Tryz.f91)))))))]))):=by
 intro qq
 induction qq with
 |zero=>
  exact⟨fun _ _ _ h=>nn h,fun _ _ _ _ _ h=>nn h⟩
 |succ qq ih=>
  obtain⟨ih91,ih91Lde⟩:=ih
  refine⟨?_,?_⟩
  intro M p1 r h
  rw[e91]at h
  obtain⟨r1,h2,h⟩:=obind h
  rcases r1 with y11|y3
  dsimp only at h
  obtain⟨r12,h13,h⟩:=obind h
  have k:=oC 3 [0,1] (c69vaca h13)<|oC 0 [] (c45 h2) o0
  rcases spl h with⟨h14,h⟩|⟨h14,h⟩
  obtain rfl:=sj h
  exact k91 (tF q91 0 [0,1] (oD (dC M.parts)<|oD (dE M.rl)<|oD (dI M.own)<|oD (dI M.args)<|oD (dE M.l)<|oB 3 h14 k))
  have k:=oB 3 h14 k
  rcases spl h with⟨h15,h⟩|⟨h15,h⟩
  obtain⟨r16,h17,h⟩:=obind h
  exact k91 (tH q91 3 [] [0,1] [] [0,38,39,40] (oD (dT r16.2)<|oD (dC M.parts)<|oD (dE M.rl)<|oD (dI M.own)<|oD (dI M.args)<|oD (dE M.l)<|oC 1 [] (c167 h17)<|oB 2 h15 k) (ih91Lde _ _ _ _ _ h))
  have k:=oB 2 h15 k
  rcases spl h with⟨h18,h⟩|⟨h18,h⟩
  obtain rfl:=sj h
  exact k91 (tF q91 0 [0,1] (oD (dC M.parts)<|oD (dE M.rl)<|oD (dI M.own)<|oD (dI M.args)<|oD (dE M.l)<|oB 0 h18 k))
  exact k91 (tH q91 1 [] [0,1] [] [0,38,39,40] (oD (dT p1.sub)<|oD (dC M.parts)<|oD (dE M.rl)<|oD (dI M.own)<|oD (dI M.args)<|oD (dE M.l)<|oB 0 h18 k) (ih91Lde _ _ _ _ _ h))
  dsimp only at h
  obtain⟨r4,h5,h⟩:=obind h
  have k:=oC 3 [0,1,3] (c69 h5)<|oC 0 [] (c45 h2) o0
  rcases spl h with⟨h6,h⟩|⟨h6,h⟩
  obtain rfl:=sj h
  exact k91 (tF q91 0 [0,1] (oD (dC M.parts)<|oD (dE M.rl)<|oD (dI M.own)<|oD (dI M.args)<|oD (dE M.l)<|oB 3 h6 k))
  have k:=oB 3 h6 k
  rcases spl h with⟨h7,h⟩|⟨h7,h⟩
  obtain⟨r8,h9,h⟩:=obind h
  exact k91 (tH q91 3 [] [0,1] [] [0,38,39,40] (oD (dT r8.2)<|oD (dC M.parts)<|oD (dE M.rl)<|oD (dI M.own)<|oD (dI M.args)<|oD (dE M.l)<|oC 1 [] (c167 h9)<|oB 2 h7 k) (ih91Lde _ _ _ _ _ h))
  have k:=oB 2 h7 k
  rcases spl h with⟨h10,h⟩|⟨h10,h⟩
  obtain rfl:=sj h
  exact k91 (tF q91 0 [0,1] (oD (dC M.parts)<|oD (dE M.rl)<|oD (dI M.own)<|oD (dI M.args)<|oD (dE M.l)<|oB 0 h10 k))
  exact k91 (tH q91 1 [] [0,1] [] [0,38,39,40] (oD (dT p1.sub)<|oD (dC M.parts)<|oD (dE M.rl)<|oD (dI M.own)<|oD (dI M.args)<|oD (dE M.l)<|oB 0 h10 k) (ih91Lde _ _ _ _ _ h))
  intro M v38 v39 v40 r h
  rw[e91Lde]at h
  rcases spl h with⟨h10,h⟩|⟨h10,h⟩
  obtain⟨x11,h12,h⟩:=obind h
  obtain⟨r13,h14,h⟩:=obind h
  have k:=oA 0 (ix23 (o:=.no) h12)<|oB 0 h10 o0
  rcases spl h with⟨h15,h⟩|⟨h15,h⟩
  exact fun j=>lH 2 [] [0,1] [] [0,38,39,40] (oD (dT v38)<|oD (dC M.parts)<|oD (dE M.rl)<|oD (dI M.own)<|oD (dI M.args)<|oD (dE M.l)<|oK 3 [0,1] h15 (ih91 _ _ _ h14) k) (ih91Lde _ _ _ _ _ h)
  obtain rfl:=sj h
  exact fun j=>lF 1 [0,1] (oD (dC M.parts)<|oD (dE M.rl)<|oD (dI M.own)<|oD (dI M.args)<|oD (dE M.l)<|oK 3 [0,1] h15 (ih91 _ _ _ h14) k)
  obtain rfl:=sj h
  exact fun j=>lF 0 [0,1] (oD (dC M.parts)<|oD (dE M.rl)<|oD (dI M.own)<|oD (dI M.args)<|oD (dE M.l)<|oB 0 h10 o0)
theorem c91{qq M p1 r}(h:e91 qq M p1=some r):K91 M p1 r Ct:=(a91_91Lde _).1 _ _ _ h
theorem ev_stillL(l:List Ent)(ts:List Tm)(hl:ts.length≤1073741824):∀(r:List Tm) (v:Nat),ts.drop v=r->(∀p∈r,Evt (fun q=>e91 q (machT l) p) true)->Evt (fun q=>e91Lde q (machT l) ts (ts.length:Int) (v:Int)) true
 | [],v,hd,hp=>by
  refine Evt.succ ?_
  simp only[e91Lde]
  exact Evt.ifF (drop_nil hd) Evt.ret
 |t::r,v,hd,hp=>by
  have hlt:=drop_lt hd
  refine Evt.succ ?_
  simp only[e91Lde]
  refine Evt.ifT (drop_dec hd) (Evt.pure (drop_idx hd) ((hp t (by simp)).bind (Evt.ifT rfl ?_)))
  rw[w64_nat v (by omega)]
  exact ev_stillL l ts hl r (v+1) (drop_next hd) fun p h=>hp p (by simp[h])
def e21(qq:Nat)(p0:Int)(p1 p2:Tm):Option (Tm):=
 some (Tm.mk p0 0 [p1,p2])
abbrev K21 (p0:Int) (p1 p2 r:Tm) (C:Cf):Prop:=C 21 [] [ai p0,tmA p1,tmA p2] (tmA r) [] 0
theorem q21:Qf 21 Tryz.f21:=⟨Tryz.func21,by kernel_rfl⟩
theorem k21{p0 p1 p2 r}(h:K21 p0 p1 p2 r Ci):K21 p0 p1 p2 r Ct:=⟨h,⟨tv,⟨tv,tv,⟨tv,dT _⟩,tv⟩,⟨tv,tv,⟨tv,dT _⟩,tv⟩,tv⟩,forall_nil,⟨tv,tv,dT _,tv⟩,forall_nil⟩
theorem c21{qq p0 p1 p2 r}(h:e21 qq p0 p1 p2=some r):K21 p0 p1 p2 r Ct:=by
 unfold e21 at h
 obtain rfl:=sj h
 exact k21 (tF q21 1 [] (oD (dT [p1,p2])<|oS 2 (obLitR tm_eq [p1,p2]) o0))
def e25Ldf:Nat->(List Tm)->Int->Int->Int->(List Tm)->Option (Tm)
 |0,_,_,_,_,_=>none
 |qq+1,p1,v5,vb0_0,vb0_1,vb0_2=>
 if decide (v5<(List.length p1:Int))then
 gidx p1 v5>>=fun x2=>
 e21 qq 5 (Tm.mk vb0_0 vb0_1 vb0_2) x2>>=fun r4=>
 e25Ldf qq p1 (w64 (v5+1)) r4.k r4.n r4.sub
 else
 some (Tm.mk vb0_0 vb0_1 vb0_2)
def e25(qq:Nat)(p0:Tm)(p1:List Tm):Option (Tm):=
 e25Ldf qq p1 0 p0.k p0.n p0.sub
def g25LdfE0(j:Nat->Value)(p1:List Tm)(v5 vb0_0 vb0_1:Int)(vb0_2:List Tm):=sp j 19 0 [(1,slv tmCells p1 .no),(2,.mp 0 0),(4,.mp 1 0),(5,ai v5)]
def g25LdfS0(p1:List Tm)(v5 vb0_0 vb0_1:Int)(vb0_2:List Tm):LSt:=⟨[(0,.cells [ai vb0_0,ai vb0_1,slv tmCells vb0_2 .no]),(1,.cells [ai 0,ai 0,slv tmCells ([]:List Tm) .nl])],2,[],0,[]⟩
abbrev K25 (p0:Tm) (p1:List Tm) (r:Tm) (C:Cf):Prop:=C 25 [] [tmA p0,slv tmCells p1 .no] (tmA r) [] 0
theorem q25:Qf 25 Tryz.f25:=⟨Tryz.func25,by kernel_rfl⟩
theorem k25{p0 p1 r}(h:K25 p0 p1 r Ci):K25 p0 p1 r Ct:=⟨h,⟨⟨tv,tv,⟨tv,dT _⟩,tv⟩,⟨tv,dT _⟩,tv⟩,forall_nil,⟨tv,tv,dT _,tv⟩,forall_nil⟩
theorem l25Ldf:∀qq:Nat,(∀p1 v5 vb0_0 vb0_1 vb0_2 r,e25Ldf qq p1 v5 vb0_0 vb0_1 vb0_2=some r->(∀j,Dl Tryz.prog 0 (inn (inn (rgt (lft (rgt (bod Tryz.f25)))))) (g25LdfE0 j p1 v5 vb0_0 vb0_1 vb0_2) (g25LdfS0 p1 v5 vb0_0 vb0_1 vb0_2) (frameQ Tryz.prog 0 (FinQ Tryz.prog 0 Tryz.f25 (tmA r) [] 0) [.blk 0,.seq (rgt (rgt (bod Tryz.f25)))]))):=by
 intro qq
 induction qq with
 |zero=>
  exact fun _ _ _ _ _ _ h=>nn h
 |succ qq ih=>
  intro p1 v5 vb0_0 vb0_1 vb0_2 r h
  rw[e25Ldf]at h
  rcases spl h with⟨h1,h⟩|⟨h1,h⟩
  obtain⟨x2,h3,h⟩:=obind h
  obtain⟨r4,h5,h⟩:=obind h
  exact fun j=>lH 2 [] [0,1] [] [1,2,4,5] (oD (dT p1)<|oD (dT ([]:List Tm))<|oD (dT r4.sub)<|oC 1 [] (c21 h5)<|oA 1 (ix23 (o:=.no) h3)<|oB 1 h1 o0) (ih _ _ _ _ _ _ h)
  obtain rfl:=sj h
  exact fun j=>lF 2 [] (oD (dT vb0_2)<|oB 1 h1 o0)
theorem c25{qq p0 p1 r}(h:e25 qq p0 p1=some r):K25 p0 p1 r Ct:=by
 unfold e25 at h
 exact k25 (tH q25 0 [] [0,1] [] [1,2,4,5] (oD (dT p1)<|oD (dT ([]:List Tm))<|oD (dT p0.sub) o0) (l25Ldf _ _ _ _ _ _ _ h))
def e26(qq:Nat)(p0:List Ent)(p1:Tm):Option (Int):=
 e76 qq p1>>=fun r1=>
 if r1.k != 6 then
 some (-1)
 else
 e77 qq p0 r1.n 2>>=fun r4=>
 if r4 then
 e78 qq p1>>=fun r7=>
 gidx p0 r1.n>>=fun x9=>
 e79 qq x9.type>>=fun r11=>
 if (List.length r7:Int) != (List.length r11:Int)then
 some (-1)
 else
 some r1.n
 else
 some (-1)
abbrev K26 (p0:List Ent) (p1:Tm) (r:Int) (C:Cf):Prop:=C 26 [] [slv entL p0 .no,tmA p1] (ai r) [] 0
theorem q26:Qf 26 Tryz.f26:=⟨Tryz.func26,by kernel_rfl⟩
theorem k26{p0 p1 r}(h:K26 p0 p1 r Ci):K26 p0 p1 r Ct:=⟨h,⟨⟨tv,dE _⟩,⟨tv,tv,⟨tv,dT _⟩,tv⟩,tv⟩,forall_nil,tv,forall_nil⟩
theorem c26{qq p0 p1 r}(h:e26 qq p0 p1=some r):K26 p0 p1 r Ct:=by
 unfold e26 at h
 obtain⟨r1,h2,h⟩:=obind h
 have k:=oC 1 [] (c76 h2) o0
 rcases spl h with⟨h3,h⟩|⟨h3,h⟩
 obtain rfl:=sj h
 exact k26 (tF q26 0 [] (oB 2 h3 k))
 obtain⟨r4,h5,h⟩:=obind h
 have k:=oB 2 h3 k
 rcases spl h with⟨h6,h⟩|⟨h6,h⟩
 obtain⟨r7,h8,h⟩:=obind h
 obtain⟨x9,h10,h⟩:=obind h
 obtain⟨r11,h12,h⟩:=obind h
 have k:=oC 1 [] (c79 h12)<|oA 2 (ix22 (o:=.no) h10)<|oC 2 [] (c78 h8)<|oK 1 [] h6 (c77 h5) k
 rcases spl h with⟨h13,h⟩|⟨h13,h⟩
 obtain rfl:=sj h
 exact k26 (tF q26 0 [] (oB 1 h13 k))
 obtain rfl:=sj h
 exact k26 (tF q26 1 [] (oB 1 h13 k))
 obtain rfl:=sj h
 exact k26 (tF q26 1 [] (oK 1 [] h6 (c77 h5) k))
theorem ev_rTwo(k:Int)(a b:Tm):Evt (fun q=>e21 q k a b) (.mk k 0 [a,b]):=Evt.mk fun _=>rfl
theorem ev_rApplyL:∀(r l:List Tm) (v:Nat) (f:Tm),l.drop v=r->l.length≤4294967296->Evt (fun q=>e25Ldf q l (v:Int) f.k f.n f.sub) (apT f r)
 | [],l,v,f,hd,hl=>by
  refine Evt.succ ?_
  simp only[e25Ldf,tm_eta]
  exact Evt.ifF (drop_nil hd) (Evt.ret.eq (by rw[apT]))
 |a::r,l,v,f,hd,hl=>by
  have hlt:=drop_lt hd
  refine Evt.succ ?_
  simp only[e25Ldf,tm_eta]
  refine Evt.ifT (drop_dec hd) (Evt.pure (drop_idx hd) ((ev_rTwo 5 f a).bind ?_))
  rw[w64_nat v (by omega),apT]
  exact ev_rApplyL r l (v+1) (.mk 5 0 [f,a]) (drop_next hd) hl
theorem ev_rApply(f:Tm)(l:List Tm)(hl:l.length≤4294967296):Evt (fun q=>e25 q f l) (apT f l):=by
 simp only[e25]
 exact ev_rApplyL l l 0 f rfl hl
theorem ev_rCon{N:ByteArray->Bool}(l:List Ent)(hE:AllE N l)(t:Tm)(hs:shapedT t=true):Evt (fun q=>e26 q l t) (if isCon l t then(hdT t).n else -1):=by
 have h:=shapedT_spec hs
 have hn:=good_n (shapedT_spec (hd_shaped hs)).2.2
 simp only[e26]
 refine Evt.bind (a:=hdT t) (by simp only[e76];exact ev_rHeadL t.nodes t h.2.2 (Nat.le_refl _)) ?_
 by_cases h6:(hdT t).k=6
 ·refine Evt.ifF (by simpa using h6) ((ev_rIs l (hdT t).n 2).bind ?_)
  by_cases hi:isT l (hdT t).n 2=true
  ·have hi':=isT_spec hi
   have hst:=(entryT_spec (hE.2 _ hi'.1 hi'.2.1)).1
   have hst':=closed_shaped hst
   refine Evt.ifT hi ((ev_rArgs t.nodes t h.2.2 (Nat.le_refl _) h.1).bind (Evt.pure (gidx_ent hi'.1 hi'.2.1) ?_))
   obtain⟨L,y,hL,hlen,-,-,-,-,hT,-⟩:=ev_rTele2 hst'
   refine hT.bind ?_
   have hk:kindT l (hdT t)=2:=by unfold kindT;rw[if_pos h6,if_pos hi'.2.1];exact hi'.2.2
   by_cases hq:(arT t).length=L.length
   ·refine Evt.ifF (by simp[hq]) (Evt.ret.eq ?_)
    rw[if_pos];exact⟨hk,by rw[hq,hlen]⟩
   ·refine Evt.ifT (by simp;omega) (Evt.ret.eq ?_)
    rw[if_neg];intro hc;exact hq (by rw[hlen];exact hc.2)
  ·refine Evt.ifF (by simpa using hi) (Evt.ret.eq ?_)
   rw[if_neg]
   intro hc
   have:=kindT_spec hc.1 (by decide)
   exact hi (by unfold isT;simp[hn,this.2.1,this.2.2])
 ·refine Evt.ifT (by simpa using h6) (Evt.ret.eq ?_)
  rw[if_neg]
  intro hc
  exact h6 (kindT_spec hc.1 (by decide)).1
def e170(qq:Nat)(p0 p1:Int):Option (Tm):=
 some (Tm.mk p0 p1 [])
abbrev K170 (p0 p1:Int) (r:Tm) (C:Cf):Prop:=C 170 [] [ai p0,ai p1] (tmA r) [] 0
theorem q170:Qf 170 Tryz.f170:=⟨Tryz.func170,by kernel_rfl⟩
theorem k170{p0 p1 r}(h:K170 p0 p1 r Ci):K170 p0 p1 r Ct:=⟨h,⟨tv,tv,tv⟩,forall_nil,⟨tv,tv,dT _,tv⟩,forall_nil⟩
theorem c170{qq p0 p1 r}(h:e170 qq p0 p1=some r):K170 p0 p1 r Ct:=by
 unfold e170 at h
 obtain rfl:=sj h
 exact k170 (tF q170 1 [] (oD (dT ([]:List Tm)) o0))
mutual
def e392:Nat->Tm->Int->Int->Option (Tm)
 |0,_,_,_=>none
 |qq+1,p0,p1,p2=>
 if p0.k==1 then
 if decide (p0.n<p2)then
 some p0
 else
 e170 qq 1 (w64 (p0.n+p1))>>=fun r3=>
 some r3
 else
 e392Ldg qq p0 p1 p2 0 []
def e392Ldg:Nat->Tm->Int->Int->Int->(List Tm)->Option (Tm)
 |0,_,_,_,_,_=>none
 |qq+1,p0,p1,p2,v8,vb2_2=>
 if decide (v8<(List.length p0.sub:Int))then
 gidx p0.sub v8>>=fun x6=>
 e71 qq p0 v8>>=fun r8=>
 e392 qq x6 p1 (w64 (p2+r8))>>=fun r10=>
 gapp 40 vb2_2 [r10]>>=fun l12=>
 e392Ldg qq p0 p1 p2 (w64 (v8+1)) l12
 else
 some (Tm.mk p0.k p0.n vb2_2)
end
def g392LdgE0(j:Nat->Value)(p0:Tm)(p1 p2 v8:Int)(vb2_2:List Tm):=sp j 52 0 [(1,ai p1),(2,ai p2),(3,.mp 0 0),(6,.mp 1 0),(7,.mp 2 0),(8,ai v8)]
def g392LdgS0(p0:Tm)(p1 p2 v8:Int)(vb2_2:List Tm):LSt:=⟨[(0,.cells [ai p0.k,ai p0.n,slv tmCells p0.sub .no]),(1,.cells [ai 0,ai 0,slv tmCells ([]:List Tm) .nl]),(2,.cells [ai p0.k,ai p0.n,slv tmCells vb2_2 (.st 0 3)])],3,[0],1,[]⟩
abbrev K392 (p0:Tm) (p1 p2:Int) (r:Tm) (C:Cf):Prop:=C 392 [] [tmA p0,ai p1,ai p2] (tmA r) [] 0
theorem q392:Qf 392 Tryz.f392:=⟨Tryz.func392,by kernel_rfl⟩
theorem k392{p0 p1 p2 r}(h:K392 p0 p1 p2 r Ci):K392 p0 p1 p2 r Ct:=⟨h,⟨⟨tv,tv,⟨tv,dT _⟩,tv⟩,tv,tv,tv⟩,forall_nil,⟨tv,tv,dT _,tv⟩,forall_nil⟩
theorem a392_392Ldg:∀qq:Nat,(∀p0 p1 p2 r,e392 qq p0 p1 p2=some r->K392 p0 p1 p2 r Ct)∧(∀p0 p1 p2 v8 vb2_2 r,e392Ldg qq p0 p1 p2 v8 vb2_2=some r->(∀j,Dl Tryz.prog 0 (inn (inn (rgt (lft (rgt (rgt (rgt (bod Tryz.f392)))))))) (g392LdgE0 j p0 p1 p2 v8 vb2_2) (g392LdgS0 p0 p1 p2 v8 vb2_2) (frameQ Tryz.prog 0 (FinQ Tryz.prog 0 Tryz.f392 (tmA r) [] 0) [.blk 0,.seq (rgt (rgt (rgt (rgt (bod Tryz.f392)))))]))):=by
 intro qq
 induction qq with
 |zero=>
  exact⟨fun _ _ _ _ h=>nn h,fun _ _ _ _ _ _ h=>nn h⟩
 |succ qq ih=>
  obtain⟨ih392,ih392Ldg⟩:=ih
  refine⟨?_,?_⟩
  intro p0 p1 p2 r h
  rw[e392]at h
  rcases spl h with⟨h1,h⟩|⟨h1,h⟩
  have k:=oB 1 h1 o0
  rcases spl h with⟨h2,h⟩|⟨h2,h⟩
  obtain rfl:=sj h
  exact k392 (tF q392 2 [] (oD (dT p0.sub)<|oB 1 h2 k))
  obtain⟨r3,h4,h⟩:=obind h
  obtain rfl:=sj h
  exact k392 (tF q392 1 [] (oD (dT r3.sub)<|oC 2 [] (c170 h4)<|oB 1 h2 k))
  exact k392 (tH q392 3 [(some 2,2,3)] [0,1,2] [0] [1,2,3,6,7,8] (oD (dT ([]:List Tm))<|oD (dT ([]:List Tm))<|oD (dT p0.sub)<|oB 1 h1 o0) (ih392Ldg _ _ _ _ _ _ h))
  intro p0 p1 p2 v8 vb2_2 r h
  rw[e392Ldg]at h
  rcases spl h with⟨h5,h⟩|⟨h5,h⟩
  obtain⟨x6,h7,h⟩:=obind h
  obtain⟨r8,h9,h⟩:=obind h
  obtain⟨r10,h11,h⟩:=obind h
  obtain⟨l12,h13,h⟩:=obind h
  exact fun j=>lH 2 [] [0,1,2] [1] [1,2,3,6,7,8] (oD (dT l12)<|oD (dT ([]:List Tm))<|oD (dT p0.sub)<|oP 0 (apS23 h13 (by simp))<|oS 0 (obLitR tm_eq [r10])<|oC 1 [] (ih392 _ _ _ _ h11)<|oC 2 [] (c71 h9)<|oA 2 (ix23 (o:=.no) h7)<|oB 2 h5 o0) (ih392Ldg _ _ _ _ _ _ h)
  obtain rfl:=sj h
  exact fun j=>lF 2 [] (oD (dT vb2_2)<|oB 2 h5 o0)
theorem c392{qq p0 p1 p2 r}(h:e392 qq p0 p1 p2=some r):K392 p0 p1 p2 r Ct:=(a392_392Ldg _).1 _ _ _ _ h
mutual
def Bin:Tm->Prop
 | .mk _ _ l=>l.length≤2∧BinL l
def BinL:List Tm->Prop
 | []=>True
 |t::l=>Bin t∧BinL l
end
mutual
theorem good_bin:∀t:Tm,goodT t=true->Bin t
 | .mk k n l,h=>by
  have:=goodT_mk h
  rw[Bin];exact⟨(head_n this.1).2.2.2.2,good_binL l this.2⟩
theorem good_binL:∀l:List Tm,goodL l=true->BinL l
 | [],h=>trivial
 |t::l,h=>by
  have:=goodL_cons h
  rw[BinL];exact⟨good_bin t this.1,good_binL l this.2⟩
end
mutual
theorem bin_ok:∀t:Tm,Bin t->t.Ok
 | .mk k n l,h=>by
  rw[Bin]at h;rw[Tm.Ok];exact⟨by have:=h.1;omega,bin_okL l h.2⟩
theorem bin_okL:∀l:List Tm,BinL l->OkL l
 | [],h=>trivial
 |t::l,h=>by
  rw[BinL]at h;rw[OkL];exact⟨bin_ok t h.1,bin_okL l h.2⟩
end
theorem shaped_bin{t:Tm}(h:shapedT t=true):Bin t:=good_bin t (shapedT_spec h).2.2
theorem leaf_bin(k n:Int):Bin (.mk k n []):=by rw[Bin,BinL];exact⟨by simp,trivial⟩
theorem binL_of:∀ {l:List Tm},(∀x∈l,Bin x)->BinL l
 | [],_=>trivial
 |t::l,h=>by rw[BinL];exact⟨h t (by simp),binL_of fun x hx=>h x (by simp[hx])⟩
theorem bin_mk2{k n:Int}{a b:Tm}(ha:Bin a)(hb:Bin b):Bin (.mk k n [a,b]):=by rw[Bin,BinL,BinL,BinL];exact⟨by simp,ha,hb,trivial⟩
theorem bin_ap:∀(l:List Tm) (f:Tm),Bin f->(∀x∈l,Bin x)->Bin (apT f l)
 | [],f,hf,h=>hf
 |a::l,f,hf,h=>bin_ap l _ (bin_mk2 hf (h a (by simp))) fun x hx=>h x (by simp[hx])
theorem tot_rBeneath(t:Tm)(v:Nat):Tot (fun q=>e71 q t (v:Int)) fun x=>0≤x∧x≤1:=(ev_rBeneath t v).tot (by unfold undR;split<;>simp)
mutual
theorem tot_Move:∀(t:Tm) (a b:Int),Bin t->Tot (fun q=>e392 q t a b) Bin
 | .mk k n l,a,b,h=>by
  have h':=h;rw[Bin]at h'
  refine Tot.succ ?_
  simp only[e392,e170]
  refine Tot.ite (fun _=>Tot.ite (fun _=>Tot.ret h) fun _=>Tot.ret (leaf_bin _ _)) fun _=>?_
  exact tot_MoveL l (.mk k n l) a b 0 [] rfl h'.1 h'.2 rfl (by simp) fun x hx=>nomatch hx
theorem tot_MoveL:∀(r:List Tm) (p:Tm) (a b:Int) (v:Nat) (acc:List Tm),p.sub.drop v=r->p.sub.length≤2->BinL r->acc.length=v->v≤p.sub.length->(∀x∈acc,Bin x)->Tot (fun q=>e392Ldg q p a b (v:Int) acc) Bin
 | [],p,a,b,v,acc,hd,hl,hr,ha,hv,hb=>by
  refine Tot.succ ?_
  simp only[e392Ldg]
  refine Tot.ite (fun h=>?_) fun _=>Tot.ret ?_
  ·rw[drop_nil hd]at h;cases h
  ·rw[Bin];exact⟨by omega,binL_of hb⟩
 |t::r,p,a,b,v,acc,hd,hl,hr,ha,hv,hb=>by
  have hlt:=drop_lt hd
  rw[BinL]at hr
  refine Tot.succ ?_
  simp only[e392Ldg]
  refine Tot.ite (fun _=>Tot.pure (drop_idx hd) ((tot_rBeneath p v).bind fun u hu=>(tot_Move t a _ hr.1).bind fun y hy=>Tot.pure (gapp_ok (by simp;omega)) ?_)) fun h=>?_
  ·rw[w64_nat v (by omega)]
   refine tot_MoveL r p a b (v+1) (acc++[y]) (drop_next hd) hl hr.2 (by simp;omega) hlt fun x hx=>?_
   rcases List.mem_append.1 hx with hx|hx
   ·exact hb x hx
   ·rw[List.mem_singleton.1 hx];exact hy
  ·rw[drop_dec hd]at h;cases h
end
def e192(qq:Nat)(p0:Int):Option (Bool):=
 if decide (p0≥0)then
 some (decide (p0≤1048576))
 else
 some false
abbrev K192 (p0:Int) (r:Bool) (C:Cf):Prop:=C 192 [] [ai p0] (ab r) [] 0
theorem q192:Qf 192 Tryz.f192:=⟨Tryz.func192,by kernel_rfl⟩
theorem k192{p0 r}(h:K192 p0 r Ci):K192 p0 r Ct:=⟨h,⟨tv,tv⟩,forall_nil,tv,forall_nil⟩
theorem c192{qq p0 r}(h:e192 qq p0=some r):K192 p0 r Ct:=by
 unfold e192 at h
 rcases spl h with⟨h1,h⟩|⟨h1,h⟩
 obtain rfl:=sj h
 exact k192 (tF q192 1 [] (oB 0 h1 o0))
 obtain rfl:=sj h
 exact k192 (tF q192 0 [] (oB 0 h1 o0))
def e355(qq:Nat)(p0:Got9):Option (Tm×Int):=
 if p0.long then
 some ((Tm.mk 0 0 []),2)
 else
 e18 qq p0.t>>=fun r2=>
 if r2 then
 some (p0.t,0)
 else
 some ((Tm.mk 0 0 []),2)
abbrev K355 (p0:Got9) (r:Tm×Int) (C:Cf):Prop:=C 355 [] [got9A p0] (.tup [tmA r.1,ai r.2]) [] 0
theorem q355:Qf 355 Tryz.f355:=⟨Tryz.func355,by kernel_rfl⟩
theorem k355{p0 r}(h:K355 p0 r Ci):K355 p0 r Ct:=⟨h,⟨⟨tv,tv,⟨tv,dT _⟩,tv,tv⟩,tv⟩,forall_nil,⟨⟨tv,tv,dT _,tv⟩,tv,tv⟩,forall_nil⟩
theorem c355{qq p0 r}(h:e355 qq p0=some r):K355 p0 r Ct:=by
 unfold e355 at h
 rcases spl h with⟨h1,h⟩|⟨h1,h⟩
 obtain rfl:=sj h
 exact k355 (tF q355 1 [] (oD (dT ([]:List Tm))<|oB 0 h1 o0))
 obtain⟨r2,h3,h⟩:=obind h
 have k:=oB 0 h1 o0
 rcases spl h with⟨h4,h⟩|⟨h4,h⟩
 obtain rfl:=sj h
 exact k355 (tF q355 3 [] (oD (dT p0.t.sub)<|oK 1 [] h4 (c18 h3) k))
 obtain rfl:=sj h
 exact k355 (tF q355 2 [] (oD (dT ([]:List Tm))<|oK 1 [] h4 (c18 h3) k))
def e381(qq:Nat)(p0:Tm)(p1:Int):Option (Got9):=
 e392 qq p0 p1 0>>=fun r1=>
 e18 qq r1>>=fun r3=>
 some (Got9.mk r1 (!r3))
abbrev K381 (p0:Tm) (p1:Int) (r:Got9) (C:Cf):Prop:=C 381 [] [tmA p0,ai p1] (got9A r) [] 0
theorem q381:Qf 381 Tryz.f381:=⟨Tryz.func381,by kernel_rfl⟩
theorem k381{p0 p1 r}(h:K381 p0 p1 r Ci):K381 p0 p1 r Ct:=⟨h,⟨⟨tv,tv,⟨tv,dT _⟩,tv⟩,tv,tv⟩,forall_nil,⟨tv,tv,dT _,tv,tv⟩,forall_nil⟩
theorem c381{qq p0 p1 r}(h:e381 qq p0 p1=some r):K381 p0 p1 r Ct:=by
 unfold e381 at h
 obtain⟨r1,h2,h⟩:=obind h
 obtain⟨r3,h4,h⟩:=obind h
 obtain rfl:=sj h
 exact k381 (tF q381 2 [] (oD (dT r1.sub)<|oC 3 [] (c18 h4)<|oC 1 [] (c392 h2) o0))
def e382Ldh:Nat->Tm->(List Got9)->Int->(List Tm)->Bool->Option (Got9)
 |0,_,_,_,_,_=>none
 |qq+1,p0,p1,v6,vb1_2,vb1_3=>
 if decide (v6<(List.length p1:Int))then
 gidx p1 v6>>=fun x2=>
 gapp 40 vb1_2 [x2.t]>>=fun l4=>
 if vb1_3 then
 e382Ldh qq p0 p1 (w64 (v6+1)) l4 true
 else
 e382Ldh qq p0 p1 (w64 (v6+1)) l4 x2.long
 else
 if vb1_3 then
 e170 qq 2 0>>=fun r8=>
 some (Got9.mk r8 true)
 else
 e66 qq (Tm.mk p0.k p0.n vb1_2)>>=fun r10=>
 if decide (r10>8192)then
 e170 qq 2 0>>=fun r13=>
 some (Got9.mk r13 true)
 else
 some (Got9.mk (Tm.mk p0.k p0.n vb1_2) (decide (r10>8192)))
def e382(qq:Nat)(p0:Tm)(p1:List Got9):Option (Got9):=
 e382Ldh qq p0 p1 0 [] false
def g382LdhE0(j:Nat->Value)(p0:Tm)(p1:List Got9)(v6:Int)(vb1_2:List Tm)(vb1_3:Bool):=sp j 55 0 [(1,slv got9L p1 .no),(4,.mp 0 0),(5,.mp 1 0),(6,ai v6)]
def g382LdhS0(p0:Tm)(p1:List Got9)(v6:Int)(vb1_2:List Tm)(vb1_3:Bool):LSt:=⟨[(0,.cells [ai 0,ai 0,slv tmCells ([]:List Tm) .nl,ab false]),(1,.cells [ai p0.k,ai p0.n,slv tmCells vb1_2 (.st 0 3),ab vb1_3])],2,[0],1,[]⟩
abbrev K382 (p0:Tm) (p1:List Got9) (r:Got9) (C:Cf):Prop:=C 382 [] [tmA p0,slv got9L p1 .no] (got9A r) [] 0
theorem q382:Qf 382 Tryz.f382:=⟨Tryz.func382,by kernel_rfl⟩
theorem k382{p0 p1 r}(h:K382 p0 p1 r Ci):K382 p0 p1 r Ct:=⟨h,⟨⟨tv,tv,⟨tv,dT _⟩,tv⟩,⟨tv,dG9 _⟩,tv⟩,forall_nil,⟨tv,tv,dT _,tv,tv⟩,forall_nil⟩
theorem l382Ldh:∀qq:Nat,(∀p0 p1 v6 vb1_2 vb1_3 r,e382Ldh qq p0 p1 v6 vb1_2 vb1_3=some r->(∀j,Dl Tryz.prog 0 (inn (inn (rgt (lft (rgt (rgt (bod Tryz.f382))))))) (g382LdhE0 j p0 p1 v6 vb1_2 vb1_3) (g382LdhS0 p0 p1 v6 vb1_2 vb1_3) (frameQ Tryz.prog 0 (FinQ Tryz.prog 0 Tryz.f382 (got9A r) [] 0) [.blk 0,.seq (rgt (rgt (rgt (bod Tryz.f382))))]))):=by
 intro qq
 induction qq with
 |zero=>
  exact fun _ _ _ _ _ _ h=>nn h
 |succ qq ih=>
  intro p0 p1 v6 vb1_2 vb1_3 r h
  rw[e382Ldh]at h
  rcases spl h with⟨h1,h⟩|⟨h1,h⟩
  obtain⟨x2,h3,h⟩:=obind h
  obtain⟨l4,h5,h⟩:=obind h
  have k:=oP 0 (apS23 h5 (by simp))<|oS 1 (obLitR tm_eq [x2.t])<|oA 1 (ix423 (o:=.no) h3)<|oB 1 h1 o0
  rcases spl h with⟨h6,h⟩|⟨h6,h⟩
  exact fun j=>lH 2 [] [0,1] [1] [1,4,5,6] (oD (dG9 p1)<|oD (dT l4)<|oD (dT ([]:List Tm))<|oB 1 h6 k) (ih _ _ _ _ _ _ h)
  exact fun j=>lH 3 [] [0,1] [1] [1,4,5,6] (oD (dG9 p1)<|oD (dT l4)<|oD (dT ([]:List Tm))<|oA 0 (ix423 (o:=.no) h3)<|oB 1 h6 k) (ih _ _ _ _ _ _ h)
  have k:=oB 1 h1 o0
  rcases spl h with⟨h7,h⟩|⟨h7,h⟩
  obtain⟨r8,h9,h⟩:=obind h
  obtain rfl:=sj h
  exact fun j=>lF 1 [] (oD (dT r8.sub)<|oC 2 [] (c170 h9)<|oB 0 h7 k)
  obtain⟨r10,h11,h⟩:=obind h
  have k:=oC 1 [] (c66 h11)<|oB 0 h7 k
  rcases spl h with⟨h12,h⟩|⟨h12,h⟩
  obtain⟨r13,h14,h⟩:=obind h
  obtain rfl:=sj h
  exact fun j=>lF 1 [] (oD (dT r13.sub)<|oC 0 [] (c170 h14)<|oB 2 h12 k)
  obtain rfl:=sj h
  exact fun j=>lF 2 [] (oD (dT vb1_2)<|oB 2 h12 k)
theorem c382{qq p0 p1 r}(h:e382 qq p0 p1=some r):K382 p0 p1 r Ct:=by
 unfold e382 at h
 exact k382 (tH q382 3 [(some 2,2,3)] [1,2] [0] [1,4,5,6] (oD (dG9 p1)<|oD (dT ([]:List Tm))<|oD (dT ([]:List Tm)) o0) (l382Ldh _ _ _ _ _ _ _ h))
mutual
def e356:Nat->Tm->(List Tm)->Int->Option (Got9)
 |0,_,_,_=>none
 |qq+1,p0,p1,p2=>
 if p0.k==1 then
 if decide (p0.n<p2)then
 some (Got9.mk p0 false)
 else
 if decide ((w64 (p0.n-p2))<(List.length p1:Int))then
 gidx p1 (w64 (p0.n-p2))>>=fun x4=>
 e381 qq x4 p2>>=fun r6=>
 some r6
 else
 e170 qq 1 (w64 (p0.n-(List.length p1:Int)))>>=fun r8=>
 some (Got9.mk r8 false)
 else
 e356Ldi qq p0 p1 p2 [] 0
def e356Ldi:Nat->Tm->(List Tm)->Int->(List Got9)->Int->Option (Got9)
 |0,_,_,_,_,_=>none
 |qq+1,p0,p1,p2,v7,v8=>
 if decide (v8<(List.length p0.sub:Int))then
 gidx p0.sub v8>>=fun x11=>
 e71 qq p0 v8>>=fun r13=>
 e356 qq x11 p1 (w64 (p2+r13))>>=fun r15=>
 gapp 48 v7 [r15]>>=fun l17=>
 e356Ldi qq p0 p1 p2 l17 (w64 (v8+1))
 else
 e382 qq p0 v7>>=fun r19=>
 some r19
end
def g356LdiE0(j:Nat->Value)(p0:Tm)(p1:List Tm)(p2:Int)(v7:List Got9)(v8:Int):=sp j 67 0 [(1,slv tmCells p1 .no),(2,ai p2),(3,.mp 0 0),(6,.mp 1 0),(7,slv got9L v7 (.st 0 4)),(8,ai v8)]
def g356LdiS0(p0:Tm)(p1:List Tm)(p2:Int)(v7:List Got9)(v8:Int):LSt:=⟨[(0,.cells [ai p0.k,ai p0.n,slv tmCells p0.sub .no]),(1,.cells [ai 0,ai 0,slv tmCells ([]:List Tm) .nl,ab false])],2,[0],1,[]⟩
abbrev K356 (p0:Tm) (p1:List Tm) (p2:Int) (r:Got9) (C:Cf):Prop:=C 356 [] [tmA p0,slv tmCells p1 .no,ai p2] (got9A r) [] 0
theorem q356:Qf 356 Tryz.f356:=⟨Tryz.func356,by kernel_rfl⟩
theorem k356{p0 p1 p2 r}(h:K356 p0 p1 p2 r Ci):K356 p0 p1 p2 r Ct:=⟨h,⟨⟨tv,tv,⟨tv,dT _⟩,tv⟩,⟨tv,dT _⟩,tv,tv⟩,forall_nil,⟨tv,tv,dT _,tv,tv⟩,forall_nil⟩
theorem a356_356Ldi:∀qq:Nat,(∀p0 p1 p2 r,e356 qq p0 p1 p2=some r->K356 p0 p1 p2 r Ct)∧(∀p0 p1 p2 v7 v8 r,e356Ldi qq p0 p1 p2 v7 v8=some r->(∀j,Dl Tryz.prog 0 (inn (inn (rgt (lft (rgt (rgt (rgt (bod Tryz.f356)))))))) (g356LdiE0 j p0 p1 p2 v7 v8) (g356LdiS0 p0 p1 p2 v7 v8) (frameQ Tryz.prog 0 (FinQ Tryz.prog 0 Tryz.f356 (got9A r) [] 0) [.blk 0,.seq (rgt (rgt (rgt (rgt (bod Tryz.f356)))))]))):=by
 intro qq
 induction qq with
 |zero=>
  exact⟨fun _ _ _ _ h=>nn h,fun _ _ _ _ _ _ h=>nn h⟩
 |succ qq ih=>
  obtain⟨ih356,ih356Ldi⟩:=ih
  refine⟨?_,?_⟩
  intro p0 p1 p2 r h
  rw[e356]at h
  rcases spl h with⟨h1,h⟩|⟨h1,h⟩
  have k:=oB 1 h1 o0
  rcases spl h with⟨h2,h⟩|⟨h2,h⟩
  obtain rfl:=sj h
  exact k356 (tF q356 2 [] (oD (dT p0.sub)<|oB 1 h2 k))
  have k:=oB 1 h2 k
  rcases spl h with⟨h3,h⟩|⟨h3,h⟩
  obtain⟨x4,h5,h⟩:=obind h
  obtain⟨r6,h7,h⟩:=obind h
  obtain rfl:=sj h
  exact k356 (tF q356 1 [] (oD (dT r6.t.sub)<|oC 1 [] (c381 h7)<|oA 2 (ix23 (o:=.no) h5)<|oB 3 h3 k))
  obtain⟨r8,h9,h⟩:=obind h
  obtain rfl:=sj h
  exact k356 (tF q356 1 [] (oD (dT r8.sub)<|oC 3 [] (c170 h9)<|oB 3 h3 k))
  exact k356 (tH q356 1 [(none,7,4)] [0,1] [0] [1,2,3,6,7,8] (oD (dG9 ([]:List Got9))<|oD (dT p1)<|oD (dT ([]:List Tm))<|oD (dT p0.sub)<|oB 1 h1 o0) (ih356Ldi _ _ _ _ _ _ h))
  intro p0 p1 p2 v7 v8 r h
  rw[e356Ldi]at h
  rcases spl h with⟨h10,h⟩|⟨h10,h⟩
  obtain⟨x11,h12,h⟩:=obind h
  obtain⟨r13,h14,h⟩:=obind h
  obtain⟨r15,h16,h⟩:=obind h
  obtain⟨l17,h18,h⟩:=obind h
  exact fun j=>lH 1 [] [0,1] [1] [1,2,3,6,7,8] (oD (dG9 l17)<|oD (dT p1)<|oD (dT ([]:List Tm))<|oD (dT p0.sub)<|oP 1 (apS423 h18 (by simp))<|oC 1 [] (ih356 _ _ _ _ h16)<|oC 2 [] (c71 h14)<|oA 1 (ix23 (o:=.no) h12)<|oB 2 h10 o0) (ih356Ldi _ _ _ _ _ _ h)
  obtain⟨r19,h20,h⟩:=obind h
  obtain rfl:=sj h
  exact fun j=>lF 1 [] (oD (dT r19.t.sub)<|oC 1 [] (c382 h20)<|oB 2 h10 o0)
theorem c356{qq p0 p1 p2 r}(h:e356 qq p0 p1 p2=some r):K356 p0 p1 p2 r Ct:=(a356_356Ldi _).1 _ _ _ _ h
def e329Ldj:Nat->Tm->(List Tm)->Bool->Int->Option (Tm×Int)
 |0,_,_,_,_=>none
 |qq+1,p0,p1,v6,v7=>
 if v6 then
 if decide (v7<(List.length p1:Int))then
 gidx p1 v7>>=fun x5=>
 e18 qq x5>>=fun r7=>
 if r7 then
 e329Ldj qq p0 p1 true (w64 (v7+1))
 else
 e329Ldj qq p0 p1 false (w64 (v7+1))
 else
 e356 qq p0 p1 0>>=fun r10=>
 e355 qq r10>>=fun r12=>
 some (r12.1,r12.2)
 else
 if decide (v7<(List.length p1:Int))then
 e329Ldj qq p0 p1 false (w64 (v7+1))
 else
 some ((Tm.mk 0 0 []),5)
def e329(qq:Nat)(p0:Tm)(p1:List Tm):Option (Tm×Int):=
 e18 qq p0>>=fun r1=>
 if r1 then
 e329Ldj qq p0 p1 true 0
 else
 e329Ldj qq p0 p1 false 0
def g329LdjE0(j:Nat->Value)(p0:Tm)(p1:List Tm)(v6:Bool)(v7:Int):=sp j 33 0 [(1,slv tmCells p1 .no),(2,.mp 0 0),(4,.mp 1 0),(6,ab v6),(7,ai v7)]
def g329LdjS0(p0:Tm)(p1:List Tm)(v6:Bool)(v7:Int):LSt:=⟨[(0,.cells [ai p0.k,ai p0.n,slv tmCells p0.sub .no]),(1,.cells [ai 0,ai 0,slv tmCells ([]:List Tm) .nl])],2,[],0,[]⟩
abbrev K329 (p0:Tm) (p1:List Tm) (r:Tm×Int) (C:Cf):Prop:=C 329 [] [tmA p0,slv tmCells p1 .no] (.tup [tmA r.1,ai r.2]) [] 0
theorem q329:Qf 329 Tryz.f329:=⟨Tryz.func329,by kernel_rfl⟩
theorem k329{p0 p1 r}(h:K329 p0 p1 r Ci):K329 p0 p1 r Ct:=⟨h,⟨⟨tv,tv,⟨tv,dT _⟩,tv⟩,⟨tv,dT _⟩,tv⟩,forall_nil,⟨⟨tv,tv,dT _,tv⟩,tv,tv⟩,forall_nil⟩
theorem l329Ldj:∀qq:Nat,(∀p0 p1 v6 v7 r,e329Ldj qq p0 p1 v6 v7=some r->(∀j,Dl Tryz.prog 0 (inn (inn (rgt (lft (rgt (rgt (bod Tryz.f329))))))) (g329LdjE0 j p0 p1 v6 v7) (g329LdjS0 p0 p1 v6 v7) (frameQ Tryz.prog 0 (FinQ Tryz.prog 0 Tryz.f329 (.tup [tmA r.1,ai r.2]) [] 0) [.blk 0,.seq (rgt (rgt (rgt (bod Tryz.f329))))]))):=by
 intro qq
 induction qq with
 |zero=>
  exact fun _ _ _ _ _ h=>nn h
 |succ qq ih=>
  intro p0 p1 v6 v7 r h
  rw[e329Ldj]at h
  cases v6
  replace h:=ifF rfl h
  rcases spl h with⟨h14,h⟩|⟨h14,h⟩
  exact fun j=>lH 1 [] [0,1] [] [1,2,4,6,7] (oD (dT p1)<|oD (dT ([]:List Tm))<|oD (dT p0.sub)<|oB 1 h14 o0) (ih _ _ _ _ _ h)
  obtain rfl:=sj h
  exact fun j=>lF 2 [] (oD (dT ([]:List Tm))<|oB 1 h14 o0)
  replace h:=ifT rfl h
  rcases spl h with⟨h4,h⟩|⟨h4,h⟩
  obtain⟨x5,h6,h⟩:=obind h
  obtain⟨r7,h8,h⟩:=obind h
  have k:=oA 0 (ix23 (o:=.no) h6)<|oB 1 h4 o0
  rcases spl h with⟨h9,h⟩|⟨h9,h⟩
  exact fun j=>lH 1 [] [0,1] [] [1,2,4,6,7] (oD (dT p1)<|oD (dT ([]:List Tm))<|oD (dT p0.sub)<|oK 1 [] h9 (c18 h8) k) (ih _ _ _ _ _ h)
  exact fun j=>lH 1 [] [0,1] [] [1,2,4,6,7] (oD (dT p1)<|oD (dT ([]:List Tm))<|oD (dT p0.sub)<|oK 1 [] h9 (c18 h8) k) (ih _ _ _ _ _ h)
  obtain⟨r10,h11,h⟩:=obind h
  obtain⟨r12,h13,h⟩:=obind h
  obtain rfl:=sj h
  exact fun j=>lF 3 [] (oD (dT r12.1.sub)<|oC 0 [] (c355 h13)<|oC 2 [] (c356 h11)<|oB 1 h4 o0)
theorem c329{qq p0 p1 r}(h:e329 qq p0 p1=some r):K329 p0 p1 r Ct:=by
 unfold e329 at h
 obtain⟨r1,h2,h⟩:=obind h
 rcases spl h with⟨h3,h⟩|⟨h3,h⟩
 exact k329 (tH q329 0 [] [0,1] [] [1,2,4,6,7] (oD (dT p1)<|oD (dT ([]:List Tm))<|oD (dT p0.sub)<|oK 1 [] h3 (c18 h2) o0) (l329Ldj _ _ _ _ _ _ h))
 exact k329 (tH q329 0 [] [0,1] [] [1,2,4,6,7] (oD (dT p1)<|oD (dT ([]:List Tm))<|oD (dT p0.sub)<|oK 1 [] h3 (c18 h2) o0) (l329Ldj _ _ _ _ _ _ h))
mutual
def e403:Nat->Tm->Int->Int->Option (Tm)
 |0,_,_,_=>none
 |qq+1,p0,p1,p2=>
 if p0.k==1 then
 if decide (p0.n≥p2)then
 e170 qq 1 (w64 (p0.n+1))>>=fun r3=>
 some r3
 else
 if p0.k==8 then
 if p0.n==p1 then
 e170 qq 1 p2>>=fun r7=>
 some r7
 else
 e403Ldk qq p0 p1 p2 0 []
 else
 e403Ldk qq p0 p1 p2 0 []
 else
 if p0.k==8 then
 if p0.n==p1 then
 e170 qq 1 p2>>=fun r11=>
 some r11
 else
 e403Ldk qq p0 p1 p2 0 []
 else
 e403Ldk qq p0 p1 p2 0 []
def e403Ldk:Nat->Tm->Int->Int->Int->(List Tm)->Option (Tm)
 |0,_,_,_,_,_=>none
 |qq+1,p0,p1,p2,v8,vb2_2=>
 if decide (v8<(List.length p0.sub:Int))then
 gidx p0.sub v8>>=fun x10=>
 e71 qq p0 v8>>=fun r12=>
 e403 qq x10 p1 (w64 (p2+r12))>>=fun r14=>
 gapp 40 vb2_2 [r14]>>=fun l16=>
 e403Ldk qq p0 p1 p2 (w64 (v8+1)) l16
 else
 some (Tm.mk p0.k p0.n vb2_2)
end
def g403LdkE0(j:Nat->Value)(p0:Tm)(p1 p2 v8:Int)(vb2_2:List Tm):=sp j 63 0 [(1,ai p1),(2,ai p2),(3,.mp 0 0),(6,.mp 1 0),(7,.mp 2 0),(8,ai v8)]
def g403LdkS0(p0:Tm)(p1 p2 v8:Int)(vb2_2:List Tm):LSt:=⟨[(0,.cells [ai p0.k,ai p0.n,slv tmCells p0.sub .no]),(1,.cells [ai 0,ai 0,slv tmCells ([]:List Tm) .nl]),(2,.cells [ai p0.k,ai p0.n,slv tmCells vb2_2 (.st 0 3)])],3,[0],1,[]⟩
abbrev K403 (p0:Tm) (p1 p2:Int) (r:Tm) (C:Cf):Prop:=C 403 [] [tmA p0,ai p1,ai p2] (tmA r) [] 0
theorem q403:Qf 403 Tryz.f403:=⟨Tryz.func403,by kernel_rfl⟩
theorem k403{p0 p1 p2 r}(h:K403 p0 p1 p2 r Ci):K403 p0 p1 p2 r Ct:=⟨h,⟨⟨tv,tv,⟨tv,dT _⟩,tv⟩,tv,tv,tv⟩,forall_nil,⟨tv,tv,dT _,tv⟩,forall_nil⟩
theorem a403_403Ldk:∀qq:Nat,(∀p0 p1 p2 r,e403 qq p0 p1 p2=some r->K403 p0 p1 p2 r Ct)∧(∀p0 p1 p2 v8 vb2_2 r,e403Ldk qq p0 p1 p2 v8 vb2_2=some r->(∀j,Dl Tryz.prog 0 (inn (inn (rgt (lft (rgt (rgt (rgt (rgt (bod Tryz.f403))))))))) (g403LdkE0 j p0 p1 p2 v8 vb2_2) (g403LdkS0 p0 p1 p2 v8 vb2_2) (frameQ Tryz.prog 0 (FinQ Tryz.prog 0 Tryz.f403 (tmA r) [] 0) [.blk 0,.seq (rgt (rgt (rgt (rgt (rgt (bod Tryz.f403))))))]))):=by
 intro qq
 induction qq with
 |zero=>
  exact⟨fun _ _ _ _ h=>nn h,fun _ _ _ _ _ _ h=>nn h⟩
 |succ qq ih=>
  obtain⟨ih403,ih403Ldk⟩:=ih
  refine⟨?_,?_⟩
  intro p0 p1 p2 r h
  rw[e403]at h
  rcases spl h with⟨h1,h⟩|⟨h1,h⟩
  have k:=oB 1 h1 o0
  rcases spl h with⟨h2,h⟩|⟨h2,h⟩
  obtain⟨r3,h4,h⟩:=obind h
  obtain rfl:=sj h
  exact k403 (tF q403 1 [] (oD (dT r3.sub)<|oC 2 [] (c170 h4)<|oB 1 h2 k))
  have k:=oB 1 h2 k
  rcases spl h with⟨h5,h⟩|⟨h5,h⟩
  have k:=oB 1 h5 k
  rcases spl h with⟨h6,h⟩|⟨h6,h⟩
  obtain⟨r7,h8,h⟩:=obind h
  obtain rfl:=sj h
  exact k403 (tF q403 1 [] (oD (dT r7.sub)<|oC 0 [] (c170 h8)<|oB 1 h6 k))
  exact k403 (tH q403 3 [(some 2,2,3)] [0,1,2] [0] [1,2,3,6,7,8] (oD (dT ([]:List Tm))<|oD (dT ([]:List Tm))<|oD (dT p0.sub)<|oB 1 h6 k) (ih403Ldk _ _ _ _ _ _ h))
  exact k403 (tH q403 3 [(some 2,2,3)] [0,1,2] [0] [1,2,3,6,7,8] (oD (dT ([]:List Tm))<|oD (dT ([]:List Tm))<|oD (dT p0.sub)<|oB 1 h5 k) (ih403Ldk _ _ _ _ _ _ h))
  have k:=oB 1 h1 o0
  rcases spl h with⟨h9,h⟩|⟨h9,h⟩
  have k:=oB 1 h9 k
  rcases spl h with⟨h10,h⟩|⟨h10,h⟩
  obtain⟨r11,h12,h⟩:=obind h
  obtain rfl:=sj h
  exact k403 (tF q403 1 [] (oD (dT r11.sub)<|oC 0 [] (c170 h12)<|oB 1 h10 k))
  exact k403 (tH q403 3 [(some 2,2,3)] [0,1,2] [0] [1,2,3,6,7,8] (oD (dT ([]:List Tm))<|oD (dT ([]:List Tm))<|oD (dT p0.sub)<|oB 1 h10 k) (ih403Ldk _ _ _ _ _ _ h))
  exact k403 (tH q403 3 [(some 2,2,3)] [0,1,2] [0] [1,2,3,6,7,8] (oD (dT ([]:List Tm))<|oD (dT ([]:List Tm))<|oD (dT p0.sub)<|oB 1 h9 k) (ih403Ldk _ _ _ _ _ _ h))
  intro p0 p1 p2 v8 vb2_2 r h
  rw[e403Ldk]at h
  rcases spl h with⟨h9,h⟩|⟨h9,h⟩
  obtain⟨x10,h11,h⟩:=obind h
  obtain⟨r12,h13,h⟩:=obind h
  obtain⟨r14,h15,h⟩:=obind h
  obtain⟨l16,h17,h⟩:=obind h
  exact fun j=>lH 2 [] [0,1,2] [1] [1,2,3,6,7,8] (oD (dT l16)<|oD (dT ([]:List Tm))<|oD (dT p0.sub)<|oP 0 (apS23 h17 (by simp))<|oS 0 (obLitR tm_eq [r14])<|oC 1 [] (ih403 _ _ _ _ h15)<|oC 2 [] (c71 h13)<|oA 2 (ix23 (o:=.no) h11)<|oB 2 h9 o0) (ih403Ldk _ _ _ _ _ _ h)
  obtain rfl:=sj h
  exact fun j=>lF 2 [] (oD (dT vb2_2)<|oB 2 h9 o0)
theorem c403{qq p0 p1 p2 r}(h:e403 qq p0 p1 p2=some r):K403 p0 p1 p2 r Ct:=(a403_403Ldk _).1 _ _ _ _ h
def e401(qq:Nat)(p0:Tm)(p1:Int):Option (Tm×Int):=
 e18 qq p0>>=fun r1=>
 if r1 then
 e192 qq p1>>=fun r4=>
 if r4 then
 e403 qq p0 p1 0>>=fun r7=>
 e355 qq (Got9.mk r7 false)>>=fun r9=>
 some (r9.1,r9.2)
 else
 some ((Tm.mk 0 0 []),5)
 else
 some ((Tm.mk 0 0 []),5)
abbrev K401 (p0:Tm) (p1:Int) (r:Tm×Int) (C:Cf):Prop:=C 401 [] [tmA p0,ai p1] (.tup [tmA r.1,ai r.2]) [] 0
theorem q401:Qf 401 Tryz.f401:=⟨Tryz.func401,by kernel_rfl⟩
theorem k401{p0 p1 r}(h:K401 p0 p1 r Ci):K401 p0 p1 r Ct:=⟨h,⟨⟨tv,tv,⟨tv,dT _⟩,tv⟩,tv,tv⟩,forall_nil,⟨⟨tv,tv,dT _,tv⟩,tv,tv⟩,forall_nil⟩
theorem c401{qq p0 p1 r}(h:e401 qq p0 p1=some r):K401 p0 p1 r Ct:=by
 unfold e401 at h
 obtain⟨r1,h2,h⟩:=obind h
 rcases spl h with⟨h3,h⟩|⟨h3,h⟩
 obtain⟨r4,h5,h⟩:=obind h
 have k:=oK 1 [] h3 (c18 h2) o0
 rcases spl h with⟨h6,h⟩|⟨h6,h⟩
 obtain⟨r7,h8,h⟩:=obind h
 obtain⟨r9,h10,h⟩:=obind h
 obtain rfl:=sj h
 exact k401 (tF q401 3 [] (oD (dT r9.1.sub)<|oC 0 [] (c355 h10)<|oC 2 [] (c403 h8)<|oK 1 [] h6 (c192 h5) k))
 obtain rfl:=sj h
 exact k401 (tF q401 2 [] (oD (dT ([]:List Tm))<|oK 1 [] h6 (c192 h5) k))
 obtain rfl:=sj h
 exact k401 (tF q401 2 [] (oD (dT ([]:List Tm))<|oK 1 [] h3 (c18 h2) o0))
mutual
theorem tot_bindR:∀(t:Tm) (a b:Int),Bin t->Tot (fun q=>e403 q t a b) Bin
 | .mk k n l,a,b,h=>by
  have h':=h;rw[Bin]at h'
  have L:=tot_bindRL l (.mk k n l) a b 0 [] rfl h'.1 h'.2 rfl (by simp) fun x hx=>nomatch hx
  refine Tot.succ ?_
  simp only[e403,e170]
  exact Tot.ite (fun _=>Tot.ite (fun _=>Tot.ret (leaf_bin _ _)) fun _=>Tot.ite (fun _=>Tot.ite (fun _=>Tot.ret (leaf_bin _ _)) fun _=>L) fun _=>L) fun _=>Tot.ite (fun _=>Tot.ite (fun _=>Tot.ret (leaf_bin _ _)) fun _=>L) fun _=>L
theorem tot_bindRL:∀(r:List Tm) (p:Tm) (a b:Int) (v:Nat) (acc:List Tm),p.sub.drop v=r->p.sub.length≤2->BinL r->acc.length=v->v≤p.sub.length->(∀x∈acc,Bin x)->Tot (fun q=>e403Ldk q p a b (v:Int) acc) Bin
 | [],p,a,b,v,acc,hd,hl,hr,ha,hv,hb=>by
  refine Tot.succ ?_
  simp only[e403Ldk]
  refine Tot.ite (fun h=>?_) fun _=>Tot.ret ?_
  ·rw[drop_nil hd]at h;cases h
  ·rw[Bin];exact⟨by omega,binL_of hb⟩
 |t::r,p,a,b,v,acc,hd,hl,hr,ha,hv,hb=>by
  have hlt:=drop_lt hd
  rw[BinL]at hr
  refine Tot.succ ?_
  simp only[e403Ldk]
  refine Tot.ite (fun _=>Tot.pure (drop_idx hd) ((tot_rBeneath p v).bind fun u hu=>(tot_bindR t a _ hr.1).bind fun y hy=>Tot.pure (gapp_ok (by simp;omega)) ?_)) fun h=>?_
  ·rw[w64_nat v (by omega)]
   refine tot_bindRL r p a b (v+1) (acc++[y]) (drop_next hd) hl hr.2 (by simp;omega) hlt fun x hx=>?_
   rcases List.mem_append.1 hx with hx|hx
   ·exact hb x hx
   ·rw[List.mem_singleton.1 hx];exact hy
  ·rw[drop_dec hd]at h;cases h
end
def Sh(r:Tm×Int):Prop:=Bin r.1∧(r.2=0->shapedT r.1=true)
theorem sh_bad(e:Int)(h:e≠0):Sh (.mk 0 0 [],e):=⟨leaf_bin 0 0,fun h'=>absurd h' h⟩
theorem tot_rDone(g:Got9)(h:Bin g.t):Tot (fun q=>e355 q g) Sh:=by
 simp only[e355]
 refine Tot.ite (fun _=>Tot.ret (sh_bad _ (by decide))) fun _=>?_
 refine Tot.bind (P:=fun b=>b=shapedT g.t) ((ev_rShaped g.t (bin_ok _ h)).tot rfl) fun b hb=>Tot.ite (fun ht=>Tot.ret ⟨h,fun _=>by rw[←hb];exact ht⟩) fun _=>Tot.ret (sh_bad _ (by decide))
theorem tot_Bind(t:Tm)(n:Int)(h:Bin t):Tot (fun q=>e401 q t n) Sh:=by
 simp only[e401]
 refine Tot.bind (P:=fun _=>True) ((ev_rShaped t (bin_ok _ h)).tot trivial) fun _ _=>?_
 refine Tot.ite (fun _=>?_) fun _=>Tot.ret (sh_bad _ (by decide))
 have F:Tot (fun q=>e192 q n) fun _=>True:=by
  simp only[e192]
  exact Tot.ite (fun _=>Tot.ret trivial) fun _=>Tot.ret trivial
 refine F.bind fun _ _=>Tot.ite (fun _=>?_) fun _=>Tot.ret (sh_bad _ (by decide))
 exact(tot_bindR t n 0 h).bind fun y hy=>(tot_rDone (Got9.mk y false) hy).bind fun r hr=>Tot.ret hr
theorem tot_raisedR(t:Tm)(b:Int)(h:Bin t):Tot (fun q=>e381 q t b) fun g=>Bin g.t:=by
 simp only[e381]
 refine(tot_Move t b 0 h).bind fun y hy=>?_
 exact Tot.bind (P:=fun _=>True) ((ev_rShaped y (bin_ok _ hy)).tot trivial) fun _ _=>Tot.ret hy
theorem tot_subsR(p:Tm):∀(r l:List Got9) (v:Nat) (acc:List Tm) (b:Bool),l.drop v=r->l.length≤2->(∀g∈r,Bin g.t)->acc.length=v->v≤l.length->(∀x∈acc,Bin x)->Tot (fun q=>e382Ldh q p l (v:Int) acc b) fun g=>Bin g.t
 | [],l,v,acc,b,hd,hl,hr,ha,hv,hb=>by
  have hB:Bin (.mk p.k p.n acc):=by rw[Bin];exact⟨by omega,binL_of hb⟩
  refine Tot.succ ?_
  simp only[e382Ldh,e170]
  refine Tot.ite (fun h=>?_) fun _=>Tot.ite (fun _=>Tot.ret (leaf_bin _ _)) fun _=>?_
  ·rw[drop_nil hd]at h;cases h
  ·exact Tot.bind (P:=fun _=>True) ((ev_rSize _).tot trivial) fun _ _=>Tot.ite (fun _=>Tot.ret (leaf_bin _ _)) fun _=>Tot.ret hB
 |g::r,l,v,acc,b,hd,hl,hr,ha,hv,hb=>by
  have hlt:=drop_lt hd
  have hb':∀x∈acc++[g.t],Bin x:=fun x hx=>by
   rcases List.mem_append.1 hx with hx|hx
   ·exact hb x hx
   ·rw[List.mem_singleton.1 hx];exact hr g (by simp)
  have IH:∀b,Tot (fun q=>e382Ldh q p l ((v+1:Nat):Int) (acc++[g.t]) b) fun g=>Bin g.t:=fun b=>tot_subsR p r l (v+1) _ b (drop_next hd) hl (fun x hx=>hr x (by simp[hx])) (by simp;omega) hlt hb'
  refine Tot.succ ?_
  simp only[e382Ldh]
  rw[w64_nat v (by omega)]
  refine Tot.ite (fun _=>Tot.pure (drop_idx hd) (Tot.pure (gapp_ok (by simp;omega)) ?_)) fun h=>?_
  ·exact Tot.ite (fun _=>IH _) fun _=>IH _
  ·rw[drop_dec hd]at h;cases h
mutual
theorem tot_manyR(args:List Tm)(hA:∀x∈args,Bin x):∀(t:Tm) (b:Int),goodT t=true->0≤b->b+t.high≤4611686018427387904->Tot (fun q=>e356 q t args b) fun g=>Bin g.t
 | .mk k n l,b,hg,h0,h1=>by
  have hh:=goodT_mk hg
  have hn:=head_n hh.1
  have hb:=good_bin _ hg
  rw[Tm.high]at h1
  refine Tot.succ ?_
  simp only[e356,e170]
  refine Tot.ite (fun _=>Tot.ite (fun _=>Tot.ret hb) fun h2=>?_) fun _=>?_
  ·have h2':¬n<b:=of_decide_eq_false h2
   have hw:w64 ((Tm.mk k n l).n-b)=n-b:=w64_id (by simp only[Tm.n];omega) (by simp only[Tm.n];omega)
   simp only[hw]
   refine Tot.ite (fun h3=>?_) fun _=>Tot.ret (leaf_bin _ _)
   have h3':=of_decide_eq_true h3
   obtain⟨i,hi⟩:∃i:Nat,n-b=(i:Int):=⟨(n-b).toNat,by omega⟩
   rw[hi]at h3' ⊢
   refine Tot.pure (drop_idx (x:=args[i]'(by omega)) (r:=args.drop (i+1)) (List.drop_eq_getElem_cons (by omega))) ?_
   exact(tot_raisedR _ b (hA _ (List.getElem_mem _))).bind fun y hy=>Tot.ret hy
  ·exact tot_manyRL args hA l (.mk k n l) 0 b [] rfl hh.1 hh.2 h0 (by omega) rfl (by simp) fun x hx=>nomatch hx
theorem tot_manyRL(args:List Tm)(hA:∀x∈args,Bin x):∀(r:List Tm) (p:Tm) (v:Nat) (b:Int) (acc:List Got9),p.sub.drop v=r->headT p=true->goodL r=true->0≤b->b+1+highL r≤4611686018427387904->acc.length=v->v≤p.sub.length->(∀g∈acc,Bin g.t)->Tot (fun q=>e356Ldi q p args b acc (v:Int)) fun g=>Bin g.t
 | [],p,v,b,acc,hd,hp,ho,h0,h1,ha,hv,hb=>by
  refine Tot.succ ?_
  simp only[e356Ldi]
  obtain⟨k,n,ls⟩:=p
  have hls:=(head_n hp).2.2.2.2
  simp only[Tm.sub]at hv
  refine Tot.ite (fun h=>?_) fun _=>?_
  ·rw[drop_nil hd]at h;cases h
  ·simp only[e382]
   exact(tot_subsR _ acc acc 0 [] false rfl (by omega) hb rfl (by simp) fun x hx=>nomatch hx).bind fun y hy=>Tot.ret hy
 |t::r,p,v,b,acc,hd,hp,ho,h0,h1,ha,hv,hb=>by
  have hg:=goodL_cons ho
  have hlt:=drop_lt hd
  have hls:p.sub.length≤2:=by obtain⟨k,n,ls⟩:=p;exact(head_n hp).2.2.2.2
  rw[highL]at h1
  refine Tot.succ ?_
  simp only[e356Ldi]
  refine Tot.ite (fun _=>Tot.pure (drop_idx hd) ((tot_rBeneath p v).bind fun u hu=>?_)) fun h=>?_
  ·rw[w64_id (x:=b+u) (by omega) (by omega)]
   refine(tot_manyR args hA t (b+u) hg.1 (by omega) (by omega)).bind fun y hy=>Tot.pure (gapp_ok (by simp;omega)) ?_
   rw[w64_nat v (by omega)]
   refine tot_manyRL args hA r p (v+1) b (acc++[y]) (drop_next hd) hp hg.2 h0 (by omega) (by simp;omega) hlt fun x hx=>?_
   rcases List.mem_append.1 hx with hx|hx
   ·exact hb x hx
   ·rw[List.mem_singleton.1 hx];exact hy
  ·rw[drop_dec hd]at h;cases h
end
theorem tot_ManyL(t:Tm)(args:List Tm)(hA:∀x∈args,Bin x)(hl:args.length≤4294967296):∀(r:List Tm) (v:Nat) (b:Bool),args.drop v=r->(b=true->shapedT t=true)->Tot (fun q=>e329Ldj q t args b (v:Int)) Sh
 | [],v,b,hd,hb=>by
  refine Tot.succ ?_
  simp only[e329Ldj]
  refine Tot.ite (fun h=>Tot.ite (fun h=>?_) fun _=>?_) fun _=>Tot.ite (fun h=>?_) fun _=>Tot.ret (sh_bad _ (by decide))
  ·rw[drop_nil hd]at h;cases h
  ·have hs:=shapedT_spec (hb h)
   exact(tot_manyR args hA t 0 hs.2.2 (by omega) (by omega)).bind fun y hy=>(tot_rDone y hy).bind fun r hr=>Tot.ret hr
  ·rw[drop_nil hd]at h;cases h
 |x::r,v,b,hd,hb=>by
  have hlt:=drop_lt hd
  have hx:Bin x:=hA x (List.mem_of_mem_drop (by rw[hd];simp))
  refine Tot.succ ?_
  simp only[e329Ldj]
  rw[w64_nat v (by omega)]
  refine Tot.ite (fun h=>Tot.ite (fun _=>Tot.pure (drop_idx hd) ?_) fun h=>?_) fun _=>Tot.ite (fun _=>?_) fun h=>?_
  ·refine Tot.bind (P:=fun _=>True) ((ev_rShaped x (bin_ok _ hx)).tot trivial) fun _ _=>Tot.ite (fun _=>tot_ManyL t args hA hl r (v+1) true (drop_next hd) fun _=>hb h) fun _=>tot_ManyL t args hA hl r (v+1) false (drop_next hd) fun h=>nomatch h
  ·rw[drop_dec hd]at h;cases h
  ·exact tot_ManyL t args hA hl r (v+1) false (drop_next hd) fun h=>nomatch h
  ·rw[drop_dec hd]at h;cases h
theorem tot_ManyR(t:Tm)(args:List Tm)(h:Bin t)(hA:∀x∈args,Bin x)(hl:args.length≤4294967296):Tot (fun q=>e329 q t args) Sh:=by
 simp only[e329]
 refine Tot.bind (P:=fun b=>b=shapedT t) ((ev_rShaped t (bin_ok _ h)).tot rfl) fun b hb=>Tot.ite (fun ht=>tot_ManyL t args hA hl args 0 true rfl fun _=>by rw[←hb];exact ht) fun _=>tot_ManyL t args hA hl args 0 false rfl fun h=>nomatch h
def RecS(r:Rec'):Prop:=(∀t∈r.around,shapedT t=true)∧(∀t∈r.at',shapedT t=true)∧r.around.length≤1048576∧r.at'.length≤1048576
theorem rec_s{l:List Ent}{t:Tm}{of b:Int}:RecS (recT l t of b):=by
 have ho:=rec_ok l t of b
 refine⟨?_,?_,ho.2.2.1,ho.2.2.2⟩
 all_goals
  unfold recT
  split
  ·rename_i a
   have hw:=wholeT_ok (t:=t) (l:=(wholeT t).1) (y:=(wholeT t).2.1) (by rw[←a.1])
   first|exact fun x hx=>hw.2.2.2.2.2 x hx|exact fun x hx=>ar_shaped hw.2.2.2.2.1 (List.mem_of_mem_drop hx)
  ·exact fun x hx=>(nomatch hx)
theorem recs_s{l:List Ent}{of:Int}:∀(r:List Tm) (B:Int),∀x∈recsT l of r B,RecS x
 | [],B,x,h=>nomatch h
 |a::r,B,x,h=>by
  rcases List.mem_cons.1 h with h|h
  ·rw[h];exact rec_s
  ·exact recs_s r (B+1) x h
theorem parts_s{l:List Ent}{i:Int}:∀x∈(partsT l i).recs,RecS x:=by unfold partsT;exact recs_s _ _
def e396Ldl:Nat->(List Int)->(List Tm)->Int->Option (List Tm)
 |0,_,_,_=>none
 |qq+1,p0,v3,v4=>
 if decide (v4<(List.length p0:Int))then
 gidx p0 v4>>=fun x2=>
 e170 qq 8 x2>>=fun r4=>
 gapp 40 v3 [r4]>>=fun l6=>
 e396Ldl qq p0 l6 (w64 (v4+1))
 else
 some v3
def e396(qq:Nat)(p0:List Int):Option (List Tm):=
 e396Ldl qq p0 [] 0
def g396LdlE0(j:Nat->Value)(p0:List Int)(v3:List Tm)(v4:Int):=sp j 21 0 [(0,slv intC p0 .no),(3,slv tmCells v3 (.st 0 3)),(4,ai v4)]
def g396LdlS0(p0:List Int)(v3:List Tm)(v4:Int):LSt:=⟨[],0,[0],1,[]⟩
abbrev K396 (p0:List Int) (r:List Tm) (C:Cf):Prop:=C 396 [] [slv intC p0 .no] (.sl (flat tmCells r) (List.length r) .no) [] 0
theorem q396:Qf 396 Tryz.f396:=⟨Tryz.func396,by kernel_rfl⟩
theorem k396{p0 r}(h:K396 p0 r Ci):K396 p0 r Ct:=⟨h,⟨⟨tv,dI _⟩,tv⟩,forall_nil,dT _,forall_nil⟩
theorem l396Ldl:∀qq:Nat,(∀p0 v3 v4 r,e396Ldl qq p0 v3 v4=some r->(∀j,Dl Tryz.prog 0 (inn (inn (rgt (lft (rgt (rgt (bod Tryz.f396))))))) (g396LdlE0 j p0 v3 v4) (g396LdlS0 p0 v3 v4) (frameQ Tryz.prog 0 (FinQ Tryz.prog 0 Tryz.f396 (.sl (flat tmCells r) (List.length r) .no) [] 0) [.blk 0,.seq (rgt (rgt (rgt (bod Tryz.f396))))]))):=by
 intro qq
 induction qq with
 |zero=>
  exact fun _ _ _ _ h=>nn h
 |succ qq ih=>
  intro p0 v3 v4 r h
  rw[e396Ldl]at h
  rcases spl h with⟨h1,h⟩|⟨h1,h⟩
  obtain⟨x2,h3,h⟩:=obind h
  obtain⟨r4,h5,h⟩:=obind h
  obtain⟨l6,h7,h⟩:=obind h
  exact fun j=>lH 1 [] [] [1] [0,3,4] (oD (dT l6)<|oD (dI p0)<|oP 0 (apS23 h7 (by simp))<|oS 0 (obLitR tm_eq [r4])<|oC 1 [] (c170 h5)<|oA 0 (ix41 (o:=.no) h3)<|oB 1 h1 o0) (ih _ _ _ _ h)
  obtain rfl:=sj h
  exact fun j=>lF 0 [] (oD (dT v3)<|oB 1 h1 o0)
theorem c396{qq p0 r}(h:e396 qq p0=some r):K396 p0 r Ct:=by
 unfold e396 at h
 exact k396 (tH q396 1 [(none,3,3)] [] [0] [0,3,4] (oD (dT ([]:List Tm))<|oD (dI p0) o0) (l396Ldl _ _ _ _ _ h))
def e404Ldm:Nat->(List Tm)->(List Tm)->Int->Option (List Tm)
 |0,_,_,_=>none
 |qq+1,p0,v3,v4=>
 if decide (v4≥0)then
 gidx p0 v4>>=fun x2=>
 gapp 40 v3 [x2]>>=fun l4=>
 e404Ldm qq p0 l4 (w64 (v4-1))
 else
 some v3
def e404(qq:Nat)(p0:List Tm):Option (List Tm):=
 e404Ldm qq p0 [] (w64 ((List.length p0:Int)-1))
def g404LdmE0(j:Nat->Value)(p0 v3:List Tm)(v4:Int):=sp j 21 0 [(0,slv tmCells p0 .no),(3,slv tmCells v3 (.st 0 3)),(4,ai v4)]
def g404LdmS0(p0 v3:List Tm)(v4:Int):LSt:=⟨[],0,[0],1,[]⟩
abbrev K404 (p0 r:List Tm) (C:Cf):Prop:=C 404 [] [slv tmCells p0 .no] (.sl (flat tmCells r) (List.length r) .no) [] 0
theorem q404:Qf 404 Tryz.f404:=⟨Tryz.func404,by kernel_rfl⟩
theorem k404{p0 r}(h:K404 p0 r Ci):K404 p0 r Ct:=⟨h,⟨⟨tv,dT _⟩,tv⟩,forall_nil,dT _,forall_nil⟩
theorem l404Ldm:∀qq:Nat,(∀p0 v3 v4 r,e404Ldm qq p0 v3 v4=some r->(∀j,Dl Tryz.prog 0 (inn (inn (rgt (lft (rgt (rgt (bod Tryz.f404))))))) (g404LdmE0 j p0 v3 v4) (g404LdmS0 p0 v3 v4) (frameQ Tryz.prog 0 (FinQ Tryz.prog 0 Tryz.f404 (.sl (flat tmCells r) (List.length r) .no) [] 0) [.blk 0,.seq (rgt (rgt (rgt (bod Tryz.f404))))]))):=by
 intro qq
 induction qq with
 |zero=>
  exact fun _ _ _ _ h=>nn h
 |succ qq ih=>
  intro p0 v3 v4 r h
  rw[e404Ldm]at h
  rcases spl h with⟨h1,h⟩|⟨h1,h⟩
  obtain⟨x2,h3,h⟩:=obind h
  obtain⟨l4,h5,h⟩:=obind h
  exact fun j=>lH 1 [] [] [1] [0,3,4] (oD (dT l4)<|oD (dT p0)<|oP 0 (apS23 h5 (by simp))<|oS 1 (obLitR tm_eq [x2])<|oA 0 (ix23 (o:=.no) h3)<|oB 0 h1 o0) (ih _ _ _ _ h)
  obtain rfl:=sj h
  exact fun j=>lF 0 [] (oD (dT v3)<|oB 0 h1 o0)
theorem c404{qq p0 r}(h:e404 qq p0=some r):K404 p0 r Ct:=by
 unfold e404 at h
 exact k404 (tH q404 3 [(none,3,3)] [] [0] [0,3,4] (oD (dT ([]:List Tm))<|oD (dT p0) o0) (l404Ldm _ _ _ _ _ h))
def e402(qq:Nat)(p0:Tm)(p1:List Tm):Option (Tm×Int):=
 e404 qq p1>>=fun r1=>
 e329 qq p0 r1>>=fun r3=>
 some (r3.1,r3.2)
abbrev K402 (p0:Tm) (p1:List Tm) (r:Tm×Int) (C:Cf):Prop:=C 402 [] [tmA p0,slv tmCells p1 .no] (.tup [tmA r.1,ai r.2]) [] 0
theorem q402:Qf 402 Tryz.f402:=⟨Tryz.func402,by kernel_rfl⟩
theorem k402{p0 p1 r}(h:K402 p0 p1 r Ci):K402 p0 p1 r Ct:=⟨h,⟨⟨tv,tv,⟨tv,dT _⟩,tv⟩,⟨tv,dT _⟩,tv⟩,forall_nil,⟨⟨tv,tv,dT _,tv⟩,tv,tv⟩,forall_nil⟩
theorem c402{qq p0 p1 r}(h:e402 qq p0 p1=some r):K402 p0 p1 r Ct:=by
 unfold e402 at h
 obtain⟨r1,h2,h⟩:=obind h
 obtain⟨r3,h4,h⟩:=obind h
 obtain rfl:=sj h
 exact k402 (tF q402 3 [] (oD (dT r3.1.sub)<|oC 0 [] (c329 h4)<|oC 1 [] (c404 h2) o0))
def e400(qq:Nat)(p0:Tm)(p1:List Tm):Option (Tm×Bool):=
 e402 qq p0 p1>>=fun r1=>
 some (r1.1,(r1.2==0))
abbrev K400 (p0:Tm) (p1:List Tm) (r:Tm×Bool) (C:Cf):Prop:=C 400 [] [tmA p0,slv tmCells p1 .no] (.tup [tmA r.1,ab r.2]) [] 0
theorem q400:Qf 400 Tryz.f400:=⟨Tryz.func400,by kernel_rfl⟩
theorem k400{p0 p1 r}(h:K400 p0 p1 r Ci):K400 p0 p1 r Ct:=⟨h,⟨⟨tv,tv,⟨tv,dT _⟩,tv⟩,⟨tv,dT _⟩,tv⟩,forall_nil,⟨⟨tv,tv,dT _,tv⟩,tv,tv⟩,forall_nil⟩
theorem c400{qq p0 p1 r}(h:e400 qq p0 p1=some r):K400 p0 p1 r Ct:=by
 unfold e400 at h
 obtain⟨r1,h2,h⟩:=obind h
 obtain rfl:=sj h
 exact k400 (tF q400 6 [] (oD (dT r1.1.sub)<|oC 1 [] (c402 h2) o0))
def e394Ldn:Nat->(List Tm)->(List Tm)->(List Int)->(List Tm)->Int->Option (List Tm×Bool)
 |0,_,_,_,_,_=>none
 |qq+1,p0,p1,p2,v8,v9=>
 if decide (v9<(List.length p0:Int))then
 gidx p0 v9>>=fun x2=>
 gapp 40 ([]:List Tm) p1>>=fun l4=>
 gsl p2 0 v9>>=fun x7=>
 e396 qq x7>>=fun r9=>
 gapp 40 l4 r9>>=fun l11=>
 e400 qq x2 l11>>=fun r14=>
 if r14.2 then
 gapp 40 v8 [r14.1]>>=fun l17=>
 e394Ldn qq p0 p1 p2 l17 (w64 (v9+1))
 else
 some ([],false)
 else
 some (v8,true)
def e394(qq:Nat)(p0 p1:List Tm)(p2:List Int):Option (List Tm×Bool):=
 e394Ldn qq p0 p1 p2 [] 0
def g394LdnE0(j:Nat->Value)(p0 p1:List Tm)(p2:List Int)(v8:List Tm)(v9:Int):=sp j 42 0 [(0,slv tmCells p0 .no),(1,slv tmCells p1 .no),(2,slv intC p2 .no),(8,slv tmCells v8 (.st 0 3)),(9,ai v9)]
def g394LdnS0(p0 p1:List Tm)(p2:List Int)(v8:List Tm)(v9:Int):LSt:=⟨[],0,[0],1,[]⟩
abbrev K394 (p0 p1:List Tm) (p2:List Int) (r:List Tm×Bool) (C:Cf):Prop:=C 394 [] [slv tmCells p0 .no,slv tmCells p1 .no,slv intC p2 .no] (.tup [.sl (flat tmCells r.1) (List.length r.1) .no,ab r.2]) [] 0
theorem q394:Qf 394 Tryz.f394:=⟨Tryz.func394,by kernel_rfl⟩
theorem k394{p0 p1 p2 r}(h:K394 p0 p1 p2 r Ci):K394 p0 p1 p2 r Ct:=⟨h,⟨⟨tv,dT _⟩,⟨tv,dT _⟩,⟨tv,dI _⟩,tv⟩,forall_nil,⟨dT _,tv,tv⟩,forall_nil⟩
theorem l394Ldn:∀qq:Nat,(∀p0 p1 p2 v8 v9 r,e394Ldn qq p0 p1 p2 v8 v9=some r->(∀j,Dl Tryz.prog 0 (inn (inn (rgt (lft (rgt (rgt (bod Tryz.f394))))))) (g394LdnE0 j p0 p1 p2 v8 v9) (g394LdnS0 p0 p1 p2 v8 v9) (frameQ Tryz.prog 0 (FinQ Tryz.prog 0 Tryz.f394 (.tup [.sl (flat tmCells r.1) (List.length r.1) .no,ab r.2]) [] 0) [.blk 0,.seq (rgt (rgt (rgt (bod Tryz.f394))))]))):=by
 intro qq
 induction qq with
 |zero=>
  exact fun _ _ _ _ _ _ h=>nn h
 |succ qq ih=>
  intro p0 p1 p2 v8 v9 r h
  rw[e394Ldn]at h
  rcases spl h with⟨h1,h⟩|⟨h1,h⟩
  obtain⟨x2,h3,h⟩:=obind h
  obtain⟨l4,h5,h⟩:=obind h
  have k:=oA 0 (ix23 (o:=.no) h3)<|oB 1 h1 o0
  by_cases h6:List.length p1=0
  obtain⟨x7,h8,h⟩:=obind h
  obtain⟨r9,h10,h⟩:=obind h
  obtain⟨l11,h12,h⟩:=obind h
  have k:=oC 0 [] (c396 h10)<|oA 0 (slTo41 h8)<|oP 2 (apN23 h5 h6) k
  by_cases h13:List.length r9=0
  obtain⟨r14,h15,h⟩:=obind h
  have k:=oC 0 [] (c400 h15)<|oP 0 (apN23 h12 h13) k
  rcases spl h with⟨h16,h⟩|⟨h16,h⟩
  obtain⟨l17,h18,h⟩:=obind h
  exact fun j=>lH 1 [] [] [1] [0,1,2,8,9] (oD (dT l17)<|oD (dI p2)<|oD (dT p1)<|oD (dT p0)<|oP 0 (apS23 h18 (by simp))<|oS 3 (obLitR tm_eq [r14.1])<|oB 1 h16 k) (ih _ _ _ _ _ _ h)
  obtain rfl:=sj h
  exact fun j=>lF 2 [] (oD (dT ([]:List Tm))<|oB 1 h16 k)
  obtain⟨r14,h15,h⟩:=obind h
  have k:=oC 0 [] (c400 h15)<|oP 0 (apS23 h12 h13) k
  rcases spl h with⟨h16,h⟩|⟨h16,h⟩
  obtain⟨l17,h18,h⟩:=obind h
  exact fun j=>lH 1 [] [] [2] [0,1,2,8,9] (oD (dT l17)<|oD (dI p2)<|oD (dT p1)<|oD (dT p0)<|oP 0 (apS23 h18 (by simp))<|oS 3 (obLitR tm_eq [r14.1])<|oB 1 h16 k) (ih _ _ _ _ _ _ h)
  obtain rfl:=sj h
  exact fun j=>lF 2 [] (oD (dT ([]:List Tm))<|oB 1 h16 k)
  obtain⟨x7,h8,h⟩:=obind h
  obtain⟨r9,h10,h⟩:=obind h
  obtain⟨l11,h12,h⟩:=obind h
  have k:=oC 0 [] (c396 h10)<|oA 0 (slTo41 h8)<|oP 2 (apS23 h5 h6) k
  by_cases h13:List.length r9=0
  obtain⟨r14,h15,h⟩:=obind h
  have k:=oC 0 [] (c400 h15)<|oP 0 (apN23 h12 h13) k
  rcases spl h with⟨h16,h⟩|⟨h16,h⟩
  obtain⟨l17,h18,h⟩:=obind h
  exact fun j=>lH 1 [] [] [2] [0,1,2,8,9] (oD (dT l17)<|oD (dI p2)<|oD (dT p1)<|oD (dT p0)<|oP 0 (apS23 h18 (by simp))<|oS 3 (obLitR tm_eq [r14.1])<|oB 1 h16 k) (ih _ _ _ _ _ _ h)
  obtain rfl:=sj h
  exact fun j=>lF 2 [] (oD (dT ([]:List Tm))<|oB 1 h16 k)
  obtain⟨r14,h15,h⟩:=obind h
  have k:=oC 0 [] (c400 h15)<|oP 0 (apS23 h12 h13) k
  rcases spl h with⟨h16,h⟩|⟨h16,h⟩
  obtain⟨l17,h18,h⟩:=obind h
  exact fun j=>lH 1 [] [] [3] [0,1,2,8,9] (oD (dT l17)<|oD (dI p2)<|oD (dT p1)<|oD (dT p0)<|oP 0 (apS23 h18 (by simp))<|oS 3 (obLitR tm_eq [r14.1])<|oB 1 h16 k) (ih _ _ _ _ _ _ h)
  obtain rfl:=sj h
  exact fun j=>lF 2 [] (oD (dT ([]:List Tm))<|oB 1 h16 k)
  obtain rfl:=sj h
  exact fun j=>lF 0 [] (oD (dT v8)<|oB 1 h1 o0)
theorem c394{qq p0 p1 p2 r}(h:e394 qq p0 p1 p2=some r):K394 p0 p1 p2 r Ct:=by
 unfold e394 at h
 exact k394 (tH q394 1 [(none,8,3)] [] [0] [0,1,2,8,9] (oD (dT ([]:List Tm))<|oD (dI p2)<|oD (dT p1)<|oD (dT p0) o0) (l394Ldn _ _ _ _ _ _ _ h))
def e395Ldo:Nat->(List Tm)->(List Tm)->(List Tm)->Int->Option (List Tm×Bool)
 |0,_,_,_,_=>none
 |qq+1,p0,p1,v6,v7=>
 if decide (v7<(List.length p0:Int))then
 gidx p0 v7>>=fun x2=>
 e400 qq x2 p1>>=fun r4=>
 if r4.2 then
 gapp 40 v6 [r4.1]>>=fun l7=>
 e395Ldo qq p0 p1 l7 (w64 (v7+1))
 else
 some ([],false)
 else
 some (v6,true)
def e395(qq:Nat)(p0 p1:List Tm):Option (List Tm×Bool):=
 e395Ldo qq p0 p1 [] 0
def g395LdoE0(j:Nat->Value)(p0 p1 v6:List Tm)(v7:Int):=sp j 33 0 [(0,slv tmCells p0 .no),(1,slv tmCells p1 .no),(6,slv tmCells v6 (.st 0 3)),(7,ai v7)]
def g395LdoS0(p0 p1 v6:List Tm)(v7:Int):LSt:=⟨[],0,[0],1,[]⟩
abbrev K395 (p0 p1:List Tm) (r:List Tm×Bool) (C:Cf):Prop:=C 395 [] [slv tmCells p0 .no,slv tmCells p1 .no] (.tup [.sl (flat tmCells r.1) (List.length r.1) .no,ab r.2]) [] 0
theorem q395:Qf 395 Tryz.f395:=⟨Tryz.func395,by kernel_rfl⟩
theorem k395{p0 p1 r}(h:K395 p0 p1 r Ci):K395 p0 p1 r Ct:=⟨h,⟨⟨tv,dT _⟩,⟨tv,dT _⟩,tv⟩,forall_nil,⟨dT _,tv,tv⟩,forall_nil⟩
theorem l395Ldo:∀qq:Nat,(∀p0 p1 v6 v7 r,e395Ldo qq p0 p1 v6 v7=some r->(∀j,Dl Tryz.prog 0 (inn (inn (rgt (lft (rgt (rgt (bod Tryz.f395))))))) (g395LdoE0 j p0 p1 v6 v7) (g395LdoS0 p0 p1 v6 v7) (frameQ Tryz.prog 0 (FinQ Tryz.prog 0 Tryz.f395 (.tup [.sl (flat tmCells r.1) (List.length r.1) .no,ab r.2]) [] 0) [.blk 0,.seq (rgt (rgt (rgt (bod Tryz.f395))))]))):=by
 intro qq
 induction qq with
 |zero=>
  exact fun _ _ _ _ _ h=>nn h
 |succ qq ih=>
  intro p0 p1 v6 v7 r h
  rw[e395Ldo]at h
  rcases spl h with⟨h1,h⟩|⟨h1,h⟩
  obtain⟨x2,h3,h⟩:=obind h
  obtain⟨r4,h5,h⟩:=obind h
  have k:=oC 1 [] (c400 h5)<|oA 0 (ix23 (o:=.no) h3)<|oB 1 h1 o0
  rcases spl h with⟨h6,h⟩|⟨h6,h⟩
  obtain⟨l7,h8,h⟩:=obind h
  exact fun j=>lH 1 [] [] [1] [0,1,6,7] (oD (dT l7)<|oD (dT p1)<|oD (dT p0)<|oP 0 (apS23 h8 (by simp))<|oS 3 (obLitR tm_eq [r4.1])<|oB 1 h6 k) (ih _ _ _ _ _ h)
  obtain rfl:=sj h
  exact fun j=>lF 2 [] (oD (dT ([]:List Tm))<|oB 1 h6 k)
  obtain rfl:=sj h
  exact fun j=>lF 0 [] (oD (dT v6)<|oB 1 h1 o0)
theorem c395{qq p0 p1 r}(h:e395 qq p0 p1=some r):K395 p0 p1 r Ct:=by
 unfold e395 at h
 exact k395 (tH q395 1 [(none,6,3)] [] [0] [0,1,6,7] (oD (dT ([]:List Tm))<|oD (dT p1)<|oD (dT p0) o0) (l395Ldo _ _ _ _ _ _ h))
def e399Ldp:Nat->(List Int)->Int->Int->Option (Bool)
 |0,_,_,_=>none
 |qq+1,p0,p1,v5=>
 if decide (v5<(List.length p0:Int))then
 gidx p0 v5>>=fun x2=>
 if x2==p1 then
 some true
 else
 e399Ldp qq p0 p1 (w64 (v5+1))
 else
 some false
def e399(qq:Nat)(p0:List Int)(p1:Int):Option (Bool):=
 e399Ldp qq p0 p1 0
def g399LdpE0(j:Nat->Value)(p0:List Int)(p1 v5:Int):=sp j 18 0 [(0,slv intC p0 .no),(1,ai p1),(5,ai v5)]
def g399LdpS0(p0:List Int)(p1 v5:Int):LSt:=⟨[],0,[],0,[]⟩
abbrev K399 (p0:List Int) (p1:Int) (r:Bool) (C:Cf):Prop:=C 399 [] [slv intC p0 .no,ai p1] (ab r) [] 0
theorem q399:Qf 399 Tryz.f399:=⟨Tryz.func399,by kernel_rfl⟩
theorem k399{p0 p1 r}(h:K399 p0 p1 r Ci):K399 p0 p1 r Ct:=⟨h,⟨⟨tv,dI _⟩,tv,tv⟩,forall_nil,tv,forall_nil⟩
theorem l399Ldp:∀qq:Nat,(∀p0 p1 v5 r,e399Ldp qq p0 p1 v5=some r->(∀j,Dl Tryz.prog 0 (inn (inn (rgt (lft (rgt (bod Tryz.f399)))))) (g399LdpE0 j p0 p1 v5) (g399LdpS0 p0 p1 v5) (frameQ Tryz.prog 0 (FinQ Tryz.prog 0 Tryz.f399 (ab r) [] 0) [.blk 0,.seq (rgt (rgt (bod Tryz.f399)))]))):=by
 intro qq
 induction qq with
 |zero=>
  exact fun _ _ _ _ h=>nn h
 |succ qq ih=>
  intro p0 p1 v5 r h
  rw[e399Ldp]at h
  rcases spl h with⟨h1,h⟩|⟨h1,h⟩
  obtain⟨x2,h3,h⟩:=obind h
  have k:=oA 0 (ix41 (o:=.no) h3)<|oB 1 h1 o0
  rcases spl h with⟨h4,h⟩|⟨h4,h⟩
  obtain rfl:=sj h
  exact fun j=>lF 0 [] (oB 1 h4 k)
  exact fun j=>lH 1 [] [] [] [0,1,5] (oD (dI p0)<|oB 1 h4 k) (ih _ _ _ _ h)
  obtain rfl:=sj h
  exact fun j=>lF 0 [] (oB 1 h1 o0)
theorem c399{qq p0 p1 r}(h:e399 qq p0 p1=some r):K399 p0 p1 r Ct:=by
 unfold e399 at h
 exact k399 (tH q399 0 [] [] [] [0,1,5] (oD (dI p0) o0) (l399Ldp _ _ _ _ _ h))
theorem tot_Turned(l:List Tm)(hl:l.length≤1073741824)(hA:∀x∈l,Bin x):Tot (fun q=>e404 q l) fun o=>o.length=l.length∧∀x∈o,Bin x:=by
 have L:∀(m:Nat) (v:Int) (acc:List Tm),v+1=(m:Int)->acc.length+m=l.length->(∀x∈acc,Bin x)->Tot (fun q=>e404Ldm q l acc v) fun o=>o.length=l.length∧∀x∈o,Bin x:=by
  intro m
  induction m with
  |zero=>
   intro v acc hv ha hb
   refine Tot.succ ?_
   simp only[e404Ldm]
   refine Tot.ite (fun h=>?_) fun _=>Tot.ret ⟨by omega,hb⟩
   have:=of_decide_eq_true h;omega
  |succ m ih=>
   intro v acc hv ha hb
   refine Tot.succ ?_
   simp only[e404Ldm]
   obtain rfl:v=(m:Int):=by omega
   refine Tot.ite (fun _=>Tot.pure (drop_idx (x:=l[m]'(by omega)) (r:=l.drop (m+1)) (List.drop_eq_getElem_cons (by omega))) (Tot.pure (gapp_ok (by simp;omega)) ?_)) fun h=>?_
   ·rw[w64_id (x:=(m:Int)-1) (by omega) (by omega)]
    refine ih _ _ (by omega) (by simp;omega) fun x hx=>?_
    rcases List.mem_append.1 hx with hx|hx
    ·exact hb x hx
    ·rw[List.mem_singleton.1 hx];exact hA _ (List.getElem_mem _)
   ·have:=of_decide_eq_false h;omega
 simp only[e404]
 rw[w64_id (x:=(l.length:Int)-1) (by omega) (by omega)]
 exact L l.length _ [] (by omega) (by simp) fun x hx=>nomatch hx
theorem tot_Fill(t:Tm)(l:List Tm)(ht:Bin t)(hl:l.length≤1073741824)(hA:∀x∈l,Bin x):Tot (fun q=>e400 q t l) fun r=>Bin r.1∧(r.2=true->shapedT r.1=true):=by
 simp only[e400,e402]
 refine Tot.bind (P:=Sh) ((tot_Turned l hl hA).bind fun o ho=>(tot_ManyR t o ht ho.2 (by omega)).bind fun r hr=>Tot.ret hr) fun r hr=>Tot.ret ⟨hr.1,fun h=>hr.2 (by simpa using h)⟩
theorem tot_Frees13(l:List Int)(hl:l.length≤1073741824):Tot (fun q=>e396 q l) fun o=>o.length=l.length∧∀x∈o,Bin x:=by
 have L:∀(r:List Int) (v:Nat) (acc:List Tm),l.drop v=r->acc.length=v->v≤l.length->(∀x∈acc,Bin x)->Tot (fun q=>e396Ldl q l acc (v:Int)) fun o=>o.length=l.length∧∀x∈o,Bin x:=by
  intro r
  induction r with
  |nil=>
   intro v acc hd ha hv hb
   refine Tot.succ ?_
   simp only[e396Ldl]
   refine Tot.ite (fun h=>?_) fun _=>Tot.ret ⟨by have:=List.drop_eq_nil_iff.1 hd;omega,hb⟩
   rw[drop_nil hd]at h;cases h
  |cons n r ih=>
   intro v acc hd ha hv hb
   have hlt:=drop_lt hd
   refine Tot.succ ?_
   simp only[e396Ldl,e170]
   refine Tot.ite (fun _=>Tot.pure (drop_idx hd) (Tot.pure rfl (Tot.pure (gapp_ok (by simp;omega)) ?_))) fun h=>?_
   ·rw[w64_nat v (by omega)]
    refine ih (v+1) _ (drop_next hd) (by simp;omega) hlt fun x hx=>?_
    rcases List.mem_append.1 hx with hx|hx
    ·exact hb x hx
    ·rw[List.mem_singleton.1 hx];exact leaf_bin _ _
   ·rw[drop_dec hd]at h;cases h
 simp only[e396]
 exact L l 0 [] rfl rfl (by simp) fun x hx=>nomatch hx
theorem tot_each(l p1:List Tm)(hl:l.length≤1073741824)(hA:∀x∈l,Bin x)(h1:p1.length≤1073741824)(hB:∀x∈p1,Bin x):Tot (fun q=>e395 q l p1) fun o=>o.1.length≤l.length∧∀x∈o.1,Bin x:=by
 have L:∀(r:List Tm) (v:Nat) (acc:List Tm),l.drop v=r->acc.length=v->v≤l.length->(∀x∈acc,Bin x)->Tot (fun q=>e395Ldo q l p1 acc (v:Int)) fun o=>o.1.length≤l.length∧∀x∈o.1,Bin x:=by
  intro r
  induction r with
  |nil=>
   intro v acc hd ha hv hb
   refine Tot.succ ?_
   simp only[e395Ldo]
   refine Tot.ite (fun h=>?_) fun _=>Tot.ret ⟨by show acc.length≤_;omega,hb⟩
   rw[drop_nil hd]at h;cases h
  |cons n r ih=>
   intro v acc hd ha hv hb
   have hlt:=drop_lt hd
   refine Tot.succ ?_
   simp only[e395Ldo]
   refine Tot.ite (fun _=>Tot.pure (drop_idx hd) ((tot_Fill n p1 (hA n (List.mem_of_mem_drop (by rw[hd];simp))) h1 hB).bind fun y hy=>Tot.ite (fun _=>Tot.pure (gapp_ok (by simp;omega)) ?_) fun _=>Tot.ret ⟨by simp,fun x hx=>nomatch hx⟩)) fun h=>?_
   ·rw[w64_nat v (by omega)]
    refine ih (v+1) _ (drop_next hd) (by simp;omega) hlt fun x hx=>?_
    rcases List.mem_append.1 hx with hx|hx
    ·exact hb x hx
    ·rw[List.mem_singleton.1 hx];exact hy.1
   ·rw[drop_dec hd]at h;cases h
 simp only[e395]
 exact L l 0 [] rfl rfl (by simp) fun x hx=>nomatch hx
theorem bin_app{a b:List Tm}(ha:∀x∈a,Bin x)(hb:∀x∈b,Bin x):∀x∈a++b,Bin x:=fun x hx=>(List.mem_append.1 hx).elim (ha x) (hb x)
theorem tot_Fills(l p1:List Tm)(ns:List Int)(hl:l.length≤1073741)(hA:∀x∈l,Bin x)(h1:p1.length≤1073741)(hB:∀x∈p1,Bin x)(hn:l.length≤ns.length)(hn2:ns.length≤1073741):Tot (fun q=>e394 q l p1 ns) fun o=>o.1.length≤l.length∧(o.2=true->o.1.length=l.length)∧∀x∈o.1,Bin x:=by
 have L:∀(r:List Tm) (v:Nat) (acc:List Tm),l.drop v=r->acc.length=v->v≤l.length->(∀x∈acc,Bin x)->Tot (fun q=>e394Ldn q l p1 ns acc (v:Int)) fun o=>o.1.length≤l.length∧(o.2=true->o.1.length=l.length)∧∀x∈o.1,Bin x:=by
  intro r
  induction r with
  |nil=>
   intro v acc hd ha hv hb
   refine Tot.succ ?_
   simp only[e394Ldn]
   refine Tot.ite (fun h=>?_) fun _=>Tot.ret ⟨by show acc.length≤_;omega,fun _=>by have:=List.drop_eq_nil_iff.1 hd;show acc.length=_;omega,hb⟩
   rw[drop_nil hd]at h;cases h
  |cons n r ih=>
   intro v acc hd ha hv hb
   have hlt:=drop_lt hd
   refine Tot.succ ?_
   simp only[e394Ldn]
   refine Tot.ite (fun _=>Tot.pure (drop_idx hd) (Tot.pure (gapp_ok (by simp;omega)) (Tot.pure (gsl_ok (a:=0) (by omega) (by omega)) ?_))) fun h=>?_
   ·refine(tot_Frees13 _ (by simp;omega)).bind fun o ho=>Tot.pure (gapp_ok (by simp at ho ⊢;omega)) ?_
    refine(tot_Fill n _ (hA n (List.mem_of_mem_drop (by rw[hd];simp))) (by simp at ho ⊢;omega) (bin_app (bin_app (a:=[]) (fun x hx=>absurd hx (by simp)) hB) ho.2)).bind fun y hy=>Tot.ite (fun _=>Tot.pure (gapp_ok (by simp;omega)) ?_) fun _=>Tot.ret ⟨by simp,fun h=>absurd h (by simp),fun x hx=>nomatch hx⟩
    rw[w64_nat v (by omega)]
    refine ih (v+1) _ (drop_next hd) (by simp;omega) hlt (bin_app hb fun x hx=>?_)
    rw[List.mem_singleton.1 hx];exact hy.1
   ·rw[drop_dec hd]at h;cases h
 simp only[e394]
 exact L l 0 [] rfl rfl (by simp) fun x hx=>nomatch hx
theorem tot_in(l:List Int)(n:Int)(hl:l.length≤1152921504606846976):Tot (fun q=>e399 q l n) fun b=>b=true->n∈l:=by
 have L:∀(r:List Int) (v:Nat),l.drop v=r->Tot (fun q=>e399Ldp q l n (v:Int)) fun b=>b=true->n∈l:=by
  intro r
  induction r with
  |nil=>
   intro v hd
   refine Tot.succ ?_
   simp only[e399Ldp]
   refine Tot.ite (fun h=>?_) fun _=>Tot.ret fun h=>nomatch h
   rw[drop_nil hd]at h;cases h
  |cons x r ih=>
   intro v hd
   have hlt:=drop_lt hd
   refine Tot.succ ?_
   simp only[e399Ldp]
   refine Tot.ite (fun _=>Tot.pure (drop_idx hd) (Tot.ite (fun hx=>Tot.ret fun _=>?_) fun hx=>?_)) fun h=>?_
   ·have hx':x=n:=by simpa using hx
    rw[←hx'];exact List.mem_of_mem_drop (by rw[hd];simp)
   ·rw[w64_nat v (by omega)]
    exact ih (v+1) (drop_next hd)
   ·rw[drop_dec hd]at h;cases h
 simp only[e399]
 exact L l 0 rfl
def e393Ldq:Nat->Int->(List Int)->(List Int)->Int->Option (List Int)
 |0,_,_,_,_=>none
 |qq+1,p1,v5,v7,v8=>
 if decide ((List.length v7:Int)<p1)then
 if decide (v8≤1048576)then
 e399 qq v5 v8>>=fun r11=>
 if r11 then
 e393Ldq qq p1 v5 v7 (w64 (v8+1))
 else
 gapp 8 v7 [v8]>>=fun l14=>
 e393Ldq qq p1 v5 l14 (w64 (v8+1))
 else
 some v7
 else
 some v7
def e393Ldr:Nat->(List Tm)->Int->(List Int)->Int->Option (List Int)
 |0,_,_,_,_=>none
 |qq+1,p0,p1,v5,v6=>
 if decide (v6<(List.length p0:Int))then
 gidx p0 v6>>=fun x2=>
 e30 qq x2 8 8>>=fun r4=>
 gapp 8 v5 r4>>=fun l6=>
 e393Ldr qq p0 p1 l6 (w64 (v6+1))
 else
 e393Ldq qq p1 v5 [] 0
def e393(qq:Nat)(p0:List Tm)(p1:Int):Option (List Int):=
 e393Ldr qq p0 p1 [] 0
def g393LdrE0(j:Nat->Value)(p0:List Tm)(p1:Int)(v5:List Int)(v6:Int):=sp j 43 0 [(0,slv tmCells p0 .no),(1,ai p1),(5,slv intC v5 (.st 0 1)),(6,ai v6)]
def g393LdrS0(p0:List Tm)(p1:Int)(v5:List Int)(v6:Int):LSt:=⟨[],0,[0],1,[]⟩
def g393LdqE0(j:Nat->Value)(p1:Int)(v5 v7:List Int)(v8:Int):=sp j 43 0 [(1,ai p1),(5,slv intC v5 (.st 0 1)),(7,slv intC v7 (.st 1 1)),(8,ai v8)]
def g393LdqS0(p1:Int)(v5 v7:List Int)(v8:Int):LSt:=⟨[],0,[0,1],2,[]⟩
abbrev K393 (p0:List Tm) (p1:Int) (r:List Int) (C:Cf):Prop:=C 393 [] [slv tmCells p0 .no,ai p1] (.sl (flat intC r) (List.length r) .no) [] 0
theorem q393:Qf 393 Tryz.f393:=⟨Tryz.func393,by kernel_rfl⟩
theorem k393{p0 p1 r}(h:K393 p0 p1 r Ci):K393 p0 p1 r Ct:=⟨h,⟨⟨tv,dT _⟩,tv,tv⟩,forall_nil,dI _,forall_nil⟩
theorem l393Ldq:∀qq:Nat,(∀p1 v5 v7 v8 r,e393Ldq qq p1 v5 v7 v8=some r->(∀j,Dl Tryz.prog 0 (inn (inn (rgt (lft (rgt (rgt (rgt (rgt (bod Tryz.f393))))))))) (g393LdqE0 j p1 v5 v7 v8) (g393LdqS0 p1 v5 v7 v8) (frameQ Tryz.prog 0 (FinQ Tryz.prog 0 Tryz.f393 (.sl (flat intC r) (List.length r) .no) [] 0) [.blk 2,.seq (rgt (rgt (rgt (rgt (rgt (bod Tryz.f393))))))]))):=by
 intro qq
 induction qq with
 |zero=>
  exact fun _ _ _ _ _ h=>nn h
 |succ qq ih=>
  intro p1 v5 v7 v8 r h
  rw[e393Ldq]at h
  rcases spl h with⟨h9,h⟩|⟨h9,h⟩
  have k:=oB 1 h9 o0
  rcases spl h with⟨h10,h⟩|⟨h10,h⟩
  obtain⟨r11,h12,h⟩:=obind h
  have k:=oB 0 h10 k
  rcases spl h with⟨h13,h⟩|⟨h13,h⟩
  exact fun j=>lH 2 [] [] [0,1] [1,5,7,8] (oD (dI v7)<|oD (dI v5)<|oK 0 [] h13 (c399 h12) k) (ih _ _ _ _ _ h)
  obtain⟨l14,h15,h⟩:=obind h
  exact fun j=>lH 1 [] [] [0,2] [1,5,7,8] (oD (dI l14)<|oD (dI v5)<|oP 2 (apS41 h15 (by simp))<|oK 0 [] h13 (c399 h12) k) (ih _ _ _ _ _ h)
  obtain rfl:=sj h
  exact fun j=>lF 0 [] (oD (dI v7)<|oB 0 h10 k)
  obtain rfl:=sj h
  exact fun j=>lF 0 [] (oD (dI v7)<|oB 1 h9 o0)
theorem l393Ldr:∀qq:Nat,(∀p0 p1 v5 v6 r,e393Ldr qq p0 p1 v5 v6=some r->(∀j,Dl Tryz.prog 0 (inn (inn (rgt (lft (rgt (rgt (bod Tryz.f393))))))) (g393LdrE0 j p0 p1 v5 v6) (g393LdrS0 p0 p1 v5 v6) (frameQ Tryz.prog 0 (FinQ Tryz.prog 0 Tryz.f393 (.sl (flat intC r) (List.length r) .no) [] 0) [.blk 0,.seq (rgt (rgt (rgt (bod Tryz.f393))))]))):=by
 intro qq
 induction qq with
 |zero=>
  exact fun _ _ _ _ _ h=>nn h
 |succ qq ih=>
  intro p0 p1 v5 v6 r h
  rw[e393Ldr]at h
  rcases spl h with⟨h1,h⟩|⟨h1,h⟩
  obtain⟨x2,h3,h⟩:=obind h
  obtain⟨r4,h5,h⟩:=obind h
  obtain⟨l6,h7,h⟩:=obind h
  have k:=oC 1 [] (c30 h5)<|oA 0 (ix23 (o:=.no) h3)<|oB 1 h1 o0
  by_cases h8:List.length r4=0
  exact fun j=>lH 1 [] [] [0] [0,1,5,6] (oD (dI l6)<|oD (dT p0)<|oP 0 (apN41 h7 h8) k) (ih _ _ _ _ _ h)
  exact fun j=>lH 1 [] [] [1] [0,1,5,6] (oD (dI l6)<|oD (dT p0)<|oP 0 (apS41 h7 h8) k) (ih _ _ _ _ _ h)
  exact fun j=>lH 1 [(none,7,1)] [] [0,1] [1,5,7,8] (oD (dI ([]:List Int))<|oD (dI v5)<|oB 1 h1 o0) (l393Ldq _ _ _ _ _ _ h)
theorem c393{qq p0 p1 r}(h:e393 qq p0 p1=some r):K393 p0 p1 r Ct:=by
 unfold e393 at h
 exact k393 (tH q393 1 [(none,5,1)] [] [0] [0,1,5,6] (oD (dI ([]:List Int))<|oD (dT p0) o0) (l393Ldr _ _ _ _ _ _ h))
def e397Lds:Nat->Int->(List Int)->(List Tm)->Int->Int->Int->(List Tm)->Option (Tm×Bool)
 |0,_,_,_,_,_,_,_=>none
 |qq+1,p0,p1,p2,v10,vb0_0,vb0_1,vb0_2=>
 if decide (v10≥0)then
 gidx p1 v10>>=fun x3=>
 e401 qq (Tm.mk vb0_0 vb0_1 vb0_2) x3>>=fun r5=>
 if r5.2 != 0 then
 some ((Tm.mk vb0_0 vb0_1 vb0_2),false)
 else
 gidx p2 v10>>=fun x8=>
 e21 qq p0 x8 r5.1>>=fun r10=>
 e18 qq r10>>=fun r12=>
 if r12 then
 e397Lds qq p0 p1 p2 (w64 (v10-1)) r10.k r10.n r10.sub
 else
 some (r10,false)
 else
 some ((Tm.mk vb0_0 vb0_1 vb0_2),true)
def e397(qq:Nat)(p0:Int)(p1:List Int)(p2:List Tm)(p3:Tm):Option (Tm×Bool):=
 if decide ((List.length p2:Int)>24)then
 some (p3,false)
 else
 e397Lds qq p0 p1 p2 (w64 ((List.length p2:Int)-1)) p3.k p3.n p3.sub
def g397LdsE0(j:Nat->Value)(p0:Int)(p1:List Int)(p2:List Tm)(v10 vb0_0 vb0_1:Int)(vb0_2:List Tm):=sp j 48 0 [(0,ai p0),(1,slv intC p1 .no),(2,slv tmCells p2 .no),(7,.mp 0 0),(8,.mp 1 0),(10,ai v10)]
def g397LdsS0(p0:Int)(p1:List Int)(p2:List Tm)(v10 vb0_0 vb0_1:Int)(vb0_2:List Tm):LSt:=⟨[(0,.cells [ai vb0_0,ai vb0_1,slv tmCells vb0_2 .no]),(1,.cells [ai 0,ai 0,slv tmCells ([]:List Tm) .nl])],2,[],0,[]⟩
abbrev K397 (p0:Int) (p1:List Int) (p2:List Tm) (p3:Tm) (r:Tm×Bool) (C:Cf):Prop:=C 397 [] [ai p0,slv intC p1 .no,slv tmCells p2 .no,tmA p3] (.tup [tmA r.1,ab r.2]) [] 0
theorem q397:Qf 397 Tryz.f397:=⟨Tryz.func397,by kernel_rfl⟩
theorem k397{p0 p1 p2 p3 r}(h:K397 p0 p1 p2 p3 r Ci):K397 p0 p1 p2 p3 r Ct:=⟨h,⟨tv,⟨tv,dI _⟩,⟨tv,dT _⟩,⟨tv,tv,⟨tv,dT _⟩,tv⟩,tv⟩,forall_nil,⟨⟨tv,tv,dT _,tv⟩,tv,tv⟩,forall_nil⟩
theorem l397Lds:∀qq:Nat,(∀p0 p1 p2 v10 vb0_0 vb0_1 vb0_2 r,e397Lds qq p0 p1 p2 v10 vb0_0 vb0_1 vb0_2=some r->(∀j,Dl Tryz.prog 0 (inn (inn (rgt (lft (rgt (rgt (bod Tryz.f397))))))) (g397LdsE0 j p0 p1 p2 v10 vb0_0 vb0_1 vb0_2) (g397LdsS0 p0 p1 p2 v10 vb0_0 vb0_1 vb0_2) (frameQ Tryz.prog 0 (FinQ Tryz.prog 0 Tryz.f397 (.tup [tmA r.1,ab r.2]) [] 0) [.blk 0,.seq (rgt (rgt (rgt (bod Tryz.f397))))]))):=by
 intro qq
 induction qq with
 |zero=>
  exact fun _ _ _ _ _ _ _ _ h=>nn h
 |succ qq ih=>
  intro p0 p1 p2 v10 vb0_0 vb0_1 vb0_2 r h
  rw[e397Lds]at h
  rcases spl h with⟨h2,h⟩|⟨h2,h⟩
  obtain⟨x3,h4,h⟩:=obind h
  obtain⟨r5,h6,h⟩:=obind h
  have k:=oC 1 [] (c401 h6)<|oA 1 (ix41 (o:=.no) h4)<|oB 0 h2 o0
  rcases spl h with⟨h7,h⟩|⟨h7,h⟩
  obtain rfl:=sj h
  exact fun j=>lF 2 [] (oD (dT vb0_2)<|oB 3 h7 k)
  obtain⟨x8,h9,h⟩:=obind h
  obtain⟨r10,h11,h⟩:=obind h
  obtain⟨r12,h13,h⟩:=obind h
  have k:=oC 2 [] (c21 h11)<|oA 0 (ix23 (o:=.no) h9)<|oB 3 h7 k
  rcases spl h with⟨h14,h⟩|⟨h14,h⟩
  exact fun j=>lH 2 [] [0,1] [] [0,1,2,7,8,10] (oD (dT p2)<|oD (dI p1)<|oD (dT ([]:List Tm))<|oD (dT r10.sub)<|oK 2 [] h14 (c18 h13) k) (ih _ _ _ _ _ _ _ _ h)
  obtain rfl:=sj h
  exact fun j=>lF 3 [] (oD (dT r10.sub)<|oK 2 [] h14 (c18 h13) k)
  obtain rfl:=sj h
  exact fun j=>lF 2 [] (oD (dT vb0_2)<|oB 0 h2 o0)
theorem c397{qq p0 p1 p2 p3 r}(h:e397 qq p0 p1 p2 p3=some r):K397 p0 p1 p2 p3 r Ct:=by
 unfold e397 at h
 rcases spl h with⟨h1,h⟩|⟨h1,h⟩
 obtain rfl:=sj h
 exact k397 (tF q397 2 [] (oD (dT p3.sub)<|oB 1 h1 o0))
 exact k397 (tH q397 2 [] [0,1] [] [0,1,2,7,8,10] (oD (dT p2)<|oD (dI p1)<|oD (dT ([]:List Tm))<|oD (dT p3.sub)<|oB 1 h1 o0) (l397Lds _ _ _ _ _ _ _ _ _ h))
def e383(qq:Nat)(p0:Int)(p1:Rec')(p2:List Tm)(p3 p4:Tm):Option (Tm×Bool):=
 gapp 40 [p3,p4] p2>>=fun l1=>
 gapp 40 l1 p1.around>>=fun l4=>
 e393 qq l4 (List.length p1.around:Int)>>=fun r7=>
 e394 qq p1.around p2 r7>>=fun r9=>
 if r9.2 then
 gapp 40 ([]:List Tm) p2>>=fun l12=>
 e396 qq r7>>=fun r15=>
 gapp 40 l12 r15>>=fun l17=>
 e395 qq p1.at' l17>>=fun r20=>
 if r20.2 then
 e25 qq p3 r20.1>>=fun r23=>
 e25 qq p4 r15>>=fun r25=>
 e21 qq 5 r23 r25>>=fun r27=>
 e397 qq p0 r7 r9.1 r27>>=fun r29=>
 some (r29.1,r29.2)
 else
 some (p3,false)
 else
 gapp 40 ([]:List Tm) p2>>=fun l31=>
 e396 qq r7>>=fun r34=>
 gapp 40 l31 r34>>=fun l36=>
 e395 qq p1.at' l36>>=fun r39=>
 if r39.2 then
 some (p3,false)
 else
 some (p3,false)
abbrev K383 (p0:Int) (p1:Rec') (p2:List Tm) (p3 p4:Tm) (r:Tm×Bool) (C:Cf):Prop:=C 383 [] [ai p0,recA p1,slv tmCells p2 .no,tmA p3,tmA p4] (.tup [tmA r.1,ab r.2]) [] 0
theorem q383:Qf 383 Tryz.f383:=⟨Tryz.func383,by kernel_rfl⟩
theorem k383{p0 p1 p2 p3 p4 r}(h:K383 p0 p1 p2 p3 p4 r Ci):K383 p0 p1 p2 p3 p4 r Ct:=⟨h,⟨tv,⟨tv,⟨tv,dT _⟩,⟨tv,dT _⟩,tv⟩,⟨tv,dT _⟩,⟨tv,tv,⟨tv,dT _⟩,tv⟩,⟨tv,tv,⟨tv,dT _⟩,tv⟩,tv⟩,forall_nil,⟨⟨tv,tv,dT _,tv⟩,tv,tv⟩,forall_nil⟩
theorem c383{qq p0 p1 p2 p3 p4 r}(h:e383 qq p0 p1 p2 p3 p4=some r):K383 p0 p1 p2 p3 p4 r Ct:=by
 unfold e383 at h
 obtain⟨l1,h2,h⟩:=obind h
 have k:=oS 2 (obLitR tm_eq [p3,p4]) o0
 by_cases h3:List.length p2=0
 obtain⟨l4,h5,h⟩:=obind h
 have k:=oP 0 (apN23 h2 h3) k
 by_cases h6:List.length p1.around=0
 obtain⟨r7,h8,h⟩:=obind h
 obtain⟨r9,h10,h⟩:=obind h
 have k:=oC 1 [] (c394 h10)<|oC 2 [] (c393 h8)<|oP 1 (apN23 h5 h6) k
 rcases spl h with⟨h11,h⟩|⟨h11,h⟩
 obtain⟨l12,h13,h⟩:=obind h
 have k:=oB 1 h11 k
 by_cases h14:List.length p2=0
 obtain⟨r15,h16,h⟩:=obind h
 obtain⟨l17,h18,h⟩:=obind h
 have k:=oC 0 [] (c396 h16)<|oP 2 (apN23 h13 h14) k
 by_cases h19:List.length r15=0
 obtain⟨r20,h21,h⟩:=obind h
 have k:=oC 0 [] (c395 h21)<|oP 0 (apN23 h18 h19) k
 rcases spl h with⟨h22,h⟩|⟨h22,h⟩
 obtain⟨r23,h24,h⟩:=obind h
 obtain⟨r25,h26,h⟩:=obind h
 obtain⟨r27,h28,h⟩:=obind h
 obtain⟨r29,h30,h⟩:=obind h
 obtain rfl:=sj h
 exact k383 (tF q383 3 [] (oD (dT r29.1.sub)<|oC 2 [] (c397 h30)<|oC 0 [] (c21 h28)<|oC 0 [] (c25 h26)<|oC 3 [] (c396 h16)<|oC 3 [] (c25 h24)<|oB 1 h22 k))
 obtain rfl:=sj h
 exact k383 (tF q383 4 [] (oD (dT p3.sub)<|oB 1 h22 k))
 obtain⟨r20,h21,h⟩:=obind h
 have k:=oC 0 [] (c395 h21)<|oP 0 (apS23 h18 h19) k
 rcases spl h with⟨h22,h⟩|⟨h22,h⟩
 obtain⟨r23,h24,h⟩:=obind h
 obtain⟨r25,h26,h⟩:=obind h
 obtain⟨r27,h28,h⟩:=obind h
 obtain⟨r29,h30,h⟩:=obind h
 obtain rfl:=sj h
 exact k383 (tF q383 3 [] (oD (dT r29.1.sub)<|oC 2 [] (c397 h30)<|oC 0 [] (c21 h28)<|oC 0 [] (c25 h26)<|oC 3 [] (c396 h16)<|oC 3 [] (c25 h24)<|oB 1 h22 k))
 obtain rfl:=sj h
 exact k383 (tF q383 4 [] (oD (dT p3.sub)<|oB 1 h22 k))
 obtain⟨r15,h16,h⟩:=obind h
 obtain⟨l17,h18,h⟩:=obind h
 have k:=oC 0 [] (c396 h16)<|oP 2 (apS23 h13 h14) k
 by_cases h19:List.length r15=0
 obtain⟨r20,h21,h⟩:=obind h
 have k:=oC 0 [] (c395 h21)<|oP 0 (apN23 h18 h19) k
 rcases spl h with⟨h22,h⟩|⟨h22,h⟩
 obtain⟨r23,h24,h⟩:=obind h
 obtain⟨r25,h26,h⟩:=obind h
 obtain⟨r27,h28,h⟩:=obind h
 obtain⟨r29,h30,h⟩:=obind h
 obtain rfl:=sj h
 exact k383 (tF q383 3 [] (oD (dT r29.1.sub)<|oC 2 [] (c397 h30)<|oC 0 [] (c21 h28)<|oC 0 [] (c25 h26)<|oC 3 [] (c396 h16)<|oC 3 [] (c25 h24)<|oB 1 h22 k))
 obtain rfl:=sj h
 exact k383 (tF q383 4 [] (oD (dT p3.sub)<|oB 1 h22 k))
 obtain⟨r20,h21,h⟩:=obind h
 have k:=oC 0 [] (c395 h21)<|oP 0 (apS23 h18 h19) k
 rcases spl h with⟨h22,h⟩|⟨h22,h⟩
 obtain⟨r23,h24,h⟩:=obind h
 obtain⟨r25,h26,h⟩:=obind h
 obtain⟨r27,h28,h⟩:=obind h
 obtain⟨r29,h30,h⟩:=obind h
 obtain rfl:=sj h
 exact k383 (tF q383 3 [] (oD (dT r29.1.sub)<|oC 2 [] (c397 h30)<|oC 0 [] (c21 h28)<|oC 0 [] (c25 h26)<|oC 3 [] (c396 h16)<|oC 3 [] (c25 h24)<|oB 1 h22 k))
 obtain rfl:=sj h
 exact k383 (tF q383 4 [] (oD (dT p3.sub)<|oB 1 h22 k))
 obtain⟨l31,h32,h⟩:=obind h
 have k:=oB 1 h11 k
 by_cases h33:List.length p2=0
 obtain⟨r34,h35,h⟩:=obind h
 obtain⟨l36,h37,h⟩:=obind h
 have k:=oC 0 [] (c396 h35)<|oP 2 (apN23 h32 h33) k
 by_cases h38:List.length r34=0
 obtain⟨r39,h40,h⟩:=obind h
 have k:=oC 0 [] (c395 h40)<|oP 0 (apN23 h37 h38) k
 rcases spl h with⟨h41,h⟩|⟨h41,h⟩
 obtain rfl:=sj h
 exact k383 (tF q383 3 [] (oD (dT p3.sub)<|oB 1 h41 k))
 obtain rfl:=sj h
 exact k383 (tF q383 3 [] (oD (dT p3.sub)<|oB 1 h41 k))
 obtain⟨r39,h40,h⟩:=obind h
 have k:=oC 0 [] (c395 h40)<|oP 0 (apS23 h37 h38) k
 rcases spl h with⟨h41,h⟩|⟨h41,h⟩
 obtain rfl:=sj h
 exact k383 (tF q383 3 [] (oD (dT p3.sub)<|oB 1 h41 k))
 obtain rfl:=sj h
 exact k383 (tF q383 3 [] (oD (dT p3.sub)<|oB 1 h41 k))
 obtain⟨r34,h35,h⟩:=obind h
 obtain⟨l36,h37,h⟩:=obind h
 have k:=oC 0 [] (c396 h35)<|oP 2 (apS23 h32 h33) k
 by_cases h38:List.length r34=0
 obtain⟨r39,h40,h⟩:=obind h
 have k:=oC 0 [] (c395 h40)<|oP 0 (apN23 h37 h38) k
 rcases spl h with⟨h41,h⟩|⟨h41,h⟩
 obtain rfl:=sj h
 exact k383 (tF q383 3 [] (oD (dT p3.sub)<|oB 1 h41 k))
 obtain rfl:=sj h
 exact k383 (tF q383 3 [] (oD (dT p3.sub)<|oB 1 h41 k))
 obtain⟨r39,h40,h⟩:=obind h
 have k:=oC 0 [] (c395 h40)<|oP 0 (apS23 h37 h38) k
 rcases spl h with⟨h41,h⟩|⟨h41,h⟩
 obtain rfl:=sj h
 exact k383 (tF q383 3 [] (oD (dT p3.sub)<|oB 1 h41 k))
 obtain rfl:=sj h
 exact k383 (tF q383 3 [] (oD (dT p3.sub)<|oB 1 h41 k))
 obtain⟨r7,h8,h⟩:=obind h
 obtain⟨r9,h10,h⟩:=obind h
 have k:=oC 1 [] (c394 h10)<|oC 2 [] (c393 h8)<|oP 1 (apS23 h5 h6) k
 rcases spl h with⟨h11,h⟩|⟨h11,h⟩
 obtain⟨l12,h13,h⟩:=obind h
 have k:=oB 1 h11 k
 by_cases h14:List.length p2=0
 obtain⟨r15,h16,h⟩:=obind h
 obtain⟨l17,h18,h⟩:=obind h
 have k:=oC 0 [] (c396 h16)<|oP 2 (apN23 h13 h14) k
 by_cases h19:List.length r15=0
 obtain⟨r20,h21,h⟩:=obind h
 have k:=oC 0 [] (c395 h21)<|oP 0 (apN23 h18 h19) k
 rcases spl h with⟨h22,h⟩|⟨h22,h⟩
 obtain⟨r23,h24,h⟩:=obind h
 obtain⟨r25,h26,h⟩:=obind h
 obtain⟨r27,h28,h⟩:=obind h
 obtain⟨r29,h30,h⟩:=obind h
 obtain rfl:=sj h
 exact k383 (tF q383 3 [] (oD (dT r29.1.sub)<|oC 2 [] (c397 h30)<|oC 0 [] (c21 h28)<|oC 0 [] (c25 h26)<|oC 3 [] (c396 h16)<|oC 3 [] (c25 h24)<|oB 1 h22 k))
 obtain rfl:=sj h
 exact k383 (tF q383 4 [] (oD (dT p3.sub)<|oB 1 h22 k))
 obtain⟨r20,h21,h⟩:=obind h
 have k:=oC 0 [] (c395 h21)<|oP 0 (apS23 h18 h19) k
 rcases spl h with⟨h22,h⟩|⟨h22,h⟩
 obtain⟨r23,h24,h⟩:=obind h
 obtain⟨r25,h26,h⟩:=obind h
 obtain⟨r27,h28,h⟩:=obind h
 obtain⟨r29,h30,h⟩:=obind h
 obtain rfl:=sj h
 exact k383 (tF q383 3 [] (oD (dT r29.1.sub)<|oC 2 [] (c397 h30)<|oC 0 [] (c21 h28)<|oC 0 [] (c25 h26)<|oC 3 [] (c396 h16)<|oC 3 [] (c25 h24)<|oB 1 h22 k))
 obtain rfl:=sj h
 exact k383 (tF q383 4 [] (oD (dT p3.sub)<|oB 1 h22 k))
 obtain⟨r15,h16,h⟩:=obind h
 obtain⟨l17,h18,h⟩:=obind h
 have k:=oC 0 [] (c396 h16)<|oP 2 (apS23 h13 h14) k
 by_cases h19:List.length r15=0
 obtain⟨r20,h21,h⟩:=obind h
 have k:=oC 0 [] (c395 h21)<|oP 0 (apN23 h18 h19) k
 rcases spl h with⟨h22,h⟩|⟨h22,h⟩
 obtain⟨r23,h24,h⟩:=obind h
 obtain⟨r25,h26,h⟩:=obind h
 obtain⟨r27,h28,h⟩:=obind h
 obtain⟨r29,h30,h⟩:=obind h
 obtain rfl:=sj h
 exact k383 (tF q383 3 [] (oD (dT r29.1.sub)<|oC 2 [] (c397 h30)<|oC 0 [] (c21 h28)<|oC 0 [] (c25 h26)<|oC 3 [] (c396 h16)<|oC 3 [] (c25 h24)<|oB 1 h22 k))
 obtain rfl:=sj h
 exact k383 (tF q383 4 [] (oD (dT p3.sub)<|oB 1 h22 k))
 obtain⟨r20,h21,h⟩:=obind h
 have k:=oC 0 [] (c395 h21)<|oP 0 (apS23 h18 h19) k
 rcases spl h with⟨h22,h⟩|⟨h22,h⟩
 obtain⟨r23,h24,h⟩:=obind h
 obtain⟨r25,h26,h⟩:=obind h
 obtain⟨r27,h28,h⟩:=obind h
 obtain⟨r29,h30,h⟩:=obind h
 obtain rfl:=sj h
 exact k383 (tF q383 3 [] (oD (dT r29.1.sub)<|oC 2 [] (c397 h30)<|oC 0 [] (c21 h28)<|oC 0 [] (c25 h26)<|oC 3 [] (c396 h16)<|oC 3 [] (c25 h24)<|oB 1 h22 k))
 obtain rfl:=sj h
 exact k383 (tF q383 4 [] (oD (dT p3.sub)<|oB 1 h22 k))
 obtain⟨l31,h32,h⟩:=obind h
 have k:=oB 1 h11 k
 by_cases h33:List.length p2=0
 obtain⟨r34,h35,h⟩:=obind h
 obtain⟨l36,h37,h⟩:=obind h
 have k:=oC 0 [] (c396 h35)<|oP 2 (apN23 h32 h33) k
 by_cases h38:List.length r34=0
 obtain⟨r39,h40,h⟩:=obind h
 have k:=oC 0 [] (c395 h40)<|oP 0 (apN23 h37 h38) k
 rcases spl h with⟨h41,h⟩|⟨h41,h⟩
 obtain rfl:=sj h
 exact k383 (tF q383 3 [] (oD (dT p3.sub)<|oB 1 h41 k))
 obtain rfl:=sj h
 exact k383 (tF q383 3 [] (oD (dT p3.sub)<|oB 1 h41 k))
 obtain⟨r39,h40,h⟩:=obind h
 have k:=oC 0 [] (c395 h40)<|oP 0 (apS23 h37 h38) k
 rcases spl h with⟨h41,h⟩|⟨h41,h⟩
 obtain rfl:=sj h
 exact k383 (tF q383 3 [] (oD (dT p3.sub)<|oB 1 h41 k))
 obtain rfl:=sj h
 exact k383 (tF q383 3 [] (oD (dT p3.sub)<|oB 1 h41 k))
 obtain⟨r34,h35,h⟩:=obind h
 obtain⟨l36,h37,h⟩:=obind h
 have k:=oC 0 [] (c396 h35)<|oP 2 (apS23 h32 h33) k
 by_cases h38:List.length r34=0
 obtain⟨r39,h40,h⟩:=obind h
 have k:=oC 0 [] (c395 h40)<|oP 0 (apN23 h37 h38) k
 rcases spl h with⟨h41,h⟩|⟨h41,h⟩
 obtain rfl:=sj h
 exact k383 (tF q383 3 [] (oD (dT p3.sub)<|oB 1 h41 k))
 obtain rfl:=sj h
 exact k383 (tF q383 3 [] (oD (dT p3.sub)<|oB 1 h41 k))
 obtain⟨r39,h40,h⟩:=obind h
 have k:=oC 0 [] (c395 h40)<|oP 0 (apS23 h37 h38) k
 rcases spl h with⟨h41,h⟩|⟨h41,h⟩
 obtain rfl:=sj h
 exact k383 (tF q383 3 [] (oD (dT p3.sub)<|oB 1 h41 k))
 obtain rfl:=sj h
 exact k383 (tF q383 3 [] (oD (dT p3.sub)<|oB 1 h41 k))
 obtain⟨l4,h5,h⟩:=obind h
 have k:=oP 0 (apS23 h2 h3) k
 by_cases h6:List.length p1.around=0
 obtain⟨r7,h8,h⟩:=obind h
 obtain⟨r9,h10,h⟩:=obind h
 have k:=oC 1 [] (c394 h10)<|oC 2 [] (c393 h8)<|oP 1 (apN23 h5 h6) k
 rcases spl h with⟨h11,h⟩|⟨h11,h⟩
 obtain⟨l12,h13,h⟩:=obind h
 have k:=oB 1 h11 k
 by_cases h14:List.length p2=0
 obtain⟨r15,h16,h⟩:=obind h
 obtain⟨l17,h18,h⟩:=obind h
 have k:=oC 0 [] (c396 h16)<|oP 2 (apN23 h13 h14) k
 by_cases h19:List.length r15=0
 obtain⟨r20,h21,h⟩:=obind h
 have k:=oC 0 [] (c395 h21)<|oP 0 (apN23 h18 h19) k
 rcases spl h with⟨h22,h⟩|⟨h22,h⟩
 obtain⟨r23,h24,h⟩:=obind h
 obtain⟨r25,h26,h⟩:=obind h
 obtain⟨r27,h28,h⟩:=obind h
 obtain⟨r29,h30,h⟩:=obind h
 obtain rfl:=sj h
 exact k383 (tF q383 3 [] (oD (dT r29.1.sub)<|oC 2 [] (c397 h30)<|oC 0 [] (c21 h28)<|oC 0 [] (c25 h26)<|oC 3 [] (c396 h16)<|oC 3 [] (c25 h24)<|oB 1 h22 k))
 obtain rfl:=sj h
 exact k383 (tF q383 4 [] (oD (dT p3.sub)<|oB 1 h22 k))
 obtain⟨r20,h21,h⟩:=obind h
 have k:=oC 0 [] (c395 h21)<|oP 0 (apS23 h18 h19) k
 rcases spl h with⟨h22,h⟩|⟨h22,h⟩
 obtain⟨r23,h24,h⟩:=obind h
 obtain⟨r25,h26,h⟩:=obind h
 obtain⟨r27,h28,h⟩:=obind h
 obtain⟨r29,h30,h⟩:=obind h
 obtain rfl:=sj h
 exact k383 (tF q383 3 [] (oD (dT r29.1.sub)<|oC 2 [] (c397 h30)<|oC 0 [] (c21 h28)<|oC 0 [] (c25 h26)<|oC 3 [] (c396 h16)<|oC 3 [] (c25 h24)<|oB 1 h22 k))
 obtain rfl:=sj h
 exact k383 (tF q383 4 [] (oD (dT p3.sub)<|oB 1 h22 k))
 obtain⟨r15,h16,h⟩:=obind h
 obtain⟨l17,h18,h⟩:=obind h
 have k:=oC 0 [] (c396 h16)<|oP 2 (apS23 h13 h14) k
 by_cases h19:List.length r15=0
 obtain⟨r20,h21,h⟩:=obind h
 have k:=oC 0 [] (c395 h21)<|oP 0 (apN23 h18 h19) k
 rcases spl h with⟨h22,h⟩|⟨h22,h⟩
 obtain⟨r23,h24,h⟩:=obind h
 obtain⟨r25,h26,h⟩:=obind h
 obtain⟨r27,h28,h⟩:=obind h
 obtain⟨r29,h30,h⟩:=obind h
 obtain rfl:=sj h
 exact k383 (tF q383 3 [] (oD (dT r29.1.sub)<|oC 2 [] (c397 h30)<|oC 0 [] (c21 h28)<|oC 0 [] (c25 h26)<|oC 3 [] (c396 h16)<|oC 3 [] (c25 h24)<|oB 1 h22 k))
 obtain rfl:=sj h
 exact k383 (tF q383 4 [] (oD (dT p3.sub)<|oB 1 h22 k))
 obtain⟨r20,h21,h⟩:=obind h
 have k:=oC 0 [] (c395 h21)<|oP 0 (apS23 h18 h19) k
 rcases spl h with⟨h22,h⟩|⟨h22,h⟩
 obtain⟨r23,h24,h⟩:=obind h
 obtain⟨r25,h26,h⟩:=obind h
 obtain⟨r27,h28,h⟩:=obind h
 obtain⟨r29,h30,h⟩:=obind h
 obtain rfl:=sj h
 exact k383 (tF q383 3 [] (oD (dT r29.1.sub)<|oC 2 [] (c397 h30)<|oC 0 [] (c21 h28)<|oC 0 [] (c25 h26)<|oC 3 [] (c396 h16)<|oC 3 [] (c25 h24)<|oB 1 h22 k))
 obtain rfl:=sj h
 exact k383 (tF q383 4 [] (oD (dT p3.sub)<|oB 1 h22 k))
 obtain⟨l31,h32,h⟩:=obind h
 have k:=oB 1 h11 k
 by_cases h33:List.length p2=0
 obtain⟨r34,h35,h⟩:=obind h
 obtain⟨l36,h37,h⟩:=obind h
 have k:=oC 0 [] (c396 h35)<|oP 2 (apN23 h32 h33) k
 by_cases h38:List.length r34=0
 obtain⟨r39,h40,h⟩:=obind h
 have k:=oC 0 [] (c395 h40)<|oP 0 (apN23 h37 h38) k
 rcases spl h with⟨h41,h⟩|⟨h41,h⟩
 obtain rfl:=sj h
 exact k383 (tF q383 3 [] (oD (dT p3.sub)<|oB 1 h41 k))
 obtain rfl:=sj h
 exact k383 (tF q383 3 [] (oD (dT p3.sub)<|oB 1 h41 k))
 obtain⟨r39,h40,h⟩:=obind h
 have k:=oC 0 [] (c395 h40)<|oP 0 (apS23 h37 h38) k
 rcases spl h with⟨h41,h⟩|⟨h41,h⟩
 obtain rfl:=sj h
 exact k383 (tF q383 3 [] (oD (dT p3.sub)<|oB 1 h41 k))
 obtain rfl:=sj h
 exact k383 (tF q383 3 [] (oD (dT p3.sub)<|oB 1 h41 k))
 obtain⟨r34,h35,h⟩:=obind h
 obtain⟨l36,h37,h⟩:=obind h
 have k:=oC 0 [] (c396 h35)<|oP 2 (apS23 h32 h33) k
 by_cases h38:List.length r34=0
 obtain⟨r39,h40,h⟩:=obind h
 have k:=oC 0 [] (c395 h40)<|oP 0 (apN23 h37 h38) k
 rcases spl h with⟨h41,h⟩|⟨h41,h⟩
 obtain rfl:=sj h
 exact k383 (tF q383 3 [] (oD (dT p3.sub)<|oB 1 h41 k))
 obtain rfl:=sj h
 exact k383 (tF q383 3 [] (oD (dT p3.sub)<|oB 1 h41 k))
 obtain⟨r39,h40,h⟩:=obind h
 have k:=oC 0 [] (c395 h40)<|oP 0 (apS23 h37 h38) k
 rcases spl h with⟨h41,h⟩|⟨h41,h⟩
 obtain rfl:=sj h
 exact k383 (tF q383 3 [] (oD (dT p3.sub)<|oB 1 h41 k))
 obtain rfl:=sj h
 exact k383 (tF q383 3 [] (oD (dT p3.sub)<|oB 1 h41 k))
 obtain⟨r7,h8,h⟩:=obind h
 obtain⟨r9,h10,h⟩:=obind h
 have k:=oC 1 [] (c394 h10)<|oC 2 [] (c393 h8)<|oP 1 (apS23 h5 h6) k
 rcases spl h with⟨h11,h⟩|⟨h11,h⟩
 obtain⟨l12,h13,h⟩:=obind h
 have k:=oB 1 h11 k
 by_cases h14:List.length p2=0
 obtain⟨r15,h16,h⟩:=obind h
 obtain⟨l17,h18,h⟩:=obind h
 have k:=oC 0 [] (c396 h16)<|oP 2 (apN23 h13 h14) k
 by_cases h19:List.length r15=0
 obtain⟨r20,h21,h⟩:=obind h
 have k:=oC 0 [] (c395 h21)<|oP 0 (apN23 h18 h19) k
 rcases spl h with⟨h22,h⟩|⟨h22,h⟩
 obtain⟨r23,h24,h⟩:=obind h
 obtain⟨r25,h26,h⟩:=obind h
 obtain⟨r27,h28,h⟩:=obind h
 obtain⟨r29,h30,h⟩:=obind h
 obtain rfl:=sj h
 exact k383 (tF q383 3 [] (oD (dT r29.1.sub)<|oC 2 [] (c397 h30)<|oC 0 [] (c21 h28)<|oC 0 [] (c25 h26)<|oC 3 [] (c396 h16)<|oC 3 [] (c25 h24)<|oB 1 h22 k))
 obtain rfl:=sj h
 exact k383 (tF q383 4 [] (oD (dT p3.sub)<|oB 1 h22 k))
 obtain⟨r20,h21,h⟩:=obind h
 have k:=oC 0 [] (c395 h21)<|oP 0 (apS23 h18 h19) k
 rcases spl h with⟨h22,h⟩|⟨h22,h⟩
 obtain⟨r23,h24,h⟩:=obind h
 obtain⟨r25,h26,h⟩:=obind h
 obtain⟨r27,h28,h⟩:=obind h
 obtain⟨r29,h30,h⟩:=obind h
 obtain rfl:=sj h
 exact k383 (tF q383 3 [] (oD (dT r29.1.sub)<|oC 2 [] (c397 h30)<|oC 0 [] (c21 h28)<|oC 0 [] (c25 h26)<|oC 3 [] (c396 h16)<|oC 3 [] (c25 h24)<|oB 1 h22 k))
 obtain rfl:=sj h
 exact k383 (tF q383 4 [] (oD (dT p3.sub)<|oB 1 h22 k))
 obtain⟨r15,h16,h⟩:=obind h
 obtain⟨l17,h18,h⟩:=obind h
 have k:=oC 0 [] (c396 h16)<|oP 2 (apS23 h13 h14) k
 by_cases h19:List.length r15=0
 obtain⟨r20,h21,h⟩:=obind h
 have k:=oC 0 [] (c395 h21)<|oP 0 (apN23 h18 h19) k
 rcases spl h with⟨h22,h⟩|⟨h22,h⟩
 obtain⟨r23,h24,h⟩:=obind h
 obtain⟨r25,h26,h⟩:=obind h
 obtain⟨r27,h28,h⟩:=obind h
 obtain⟨r29,h30,h⟩:=obind h
 obtain rfl:=sj h
 exact k383 (tF q383 3 [] (oD (dT r29.1.sub)<|oC 2 [] (c397 h30)<|oC 0 [] (c21 h28)<|oC 0 [] (c25 h26)<|oC 3 [] (c396 h16)<|oC 3 [] (c25 h24)<|oB 1 h22 k))
 obtain rfl:=sj h
 exact k383 (tF q383 4 [] (oD (dT p3.sub)<|oB 1 h22 k))
 obtain⟨r20,h21,h⟩:=obind h
 have k:=oC 0 [] (c395 h21)<|oP 0 (apS23 h18 h19) k
 rcases spl h with⟨h22,h⟩|⟨h22,h⟩
 obtain⟨r23,h24,h⟩:=obind h
 obtain⟨r25,h26,h⟩:=obind h
 obtain⟨r27,h28,h⟩:=obind h
 obtain⟨r29,h30,h⟩:=obind h
 obtain rfl:=sj h
 exact k383 (tF q383 3 [] (oD (dT r29.1.sub)<|oC 2 [] (c397 h30)<|oC 0 [] (c21 h28)<|oC 0 [] (c25 h26)<|oC 3 [] (c396 h16)<|oC 3 [] (c25 h24)<|oB 1 h22 k))
 obtain rfl:=sj h
 exact k383 (tF q383 4 [] (oD (dT p3.sub)<|oB 1 h22 k))
 obtain⟨l31,h32,h⟩:=obind h
 have k:=oB 1 h11 k
 by_cases h33:List.length p2=0
 obtain⟨r34,h35,h⟩:=obind h
 obtain⟨l36,h37,h⟩:=obind h
 have k:=oC 0 [] (c396 h35)<|oP 2 (apN23 h32 h33) k
 by_cases h38:List.length r34=0
 obtain⟨r39,h40,h⟩:=obind h
 have k:=oC 0 [] (c395 h40)<|oP 0 (apN23 h37 h38) k
 rcases spl h with⟨h41,h⟩|⟨h41,h⟩
 obtain rfl:=sj h
 exact k383 (tF q383 3 [] (oD (dT p3.sub)<|oB 1 h41 k))
 obtain rfl:=sj h
 exact k383 (tF q383 3 [] (oD (dT p3.sub)<|oB 1 h41 k))
 obtain⟨r39,h40,h⟩:=obind h
 have k:=oC 0 [] (c395 h40)<|oP 0 (apS23 h37 h38) k
 rcases spl h with⟨h41,h⟩|⟨h41,h⟩
 obtain rfl:=sj h
 exact k383 (tF q383 3 [] (oD (dT p3.sub)<|oB 1 h41 k))
 obtain rfl:=sj h
 exact k383 (tF q383 3 [] (oD (dT p3.sub)<|oB 1 h41 k))
 obtain⟨r34,h35,h⟩:=obind h
 obtain⟨l36,h37,h⟩:=obind h
 have k:=oC 0 [] (c396 h35)<|oP 2 (apS23 h32 h33) k
 by_cases h38:List.length r34=0
 obtain⟨r39,h40,h⟩:=obind h
 have k:=oC 0 [] (c395 h40)<|oP 0 (apN23 h37 h38) k
 rcases spl h with⟨h41,h⟩|⟨h41,h⟩
 obtain rfl:=sj h
 exact k383 (tF q383 3 [] (oD (dT p3.sub)<|oB 1 h41 k))
 obtain rfl:=sj h
 exact k383 (tF q383 3 [] (oD (dT p3.sub)<|oB 1 h41 k))
 obtain⟨r39,h40,h⟩:=obind h
 have k:=oC 0 [] (c395 h40)<|oP 0 (apS23 h37 h38) k
 rcases spl h with⟨h41,h⟩|⟨h41,h⟩
 obtain rfl:=sj h
 exact k383 (tF q383 3 [] (oD (dT p3.sub)<|oB 1 h41 k))
 obtain rfl:=sj h
 exact k383 (tF q383 3 [] (oD (dT p3.sub)<|oB 1 h41 k))
end Go.Proofs.YtmfcobjnlabpoaaGreat
