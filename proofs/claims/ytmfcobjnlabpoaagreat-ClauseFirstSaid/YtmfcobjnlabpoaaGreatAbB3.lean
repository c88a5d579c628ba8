/- Texts: AbStS AbEvt AbPa AbRead AbReadE AbF289 AbF227 AbF228 AbF163 AbF229 AbF164 AbF89 AbPb AbF235 AbF175 AbF234 AbF176 AbF107 AbF174 AbPc AbF189 AbF123 AbF219 AbF156 AbF151 AbF167 AbPi AbF149 AbF212 AbF317 AbF319va44905 AbF318va52968 AbF279 AbF278 AbPj AbF246va11690 AbF248 AbF249va13512 AbF247va59605 AbF301va13512 AbF245va28161 AbF187 AbF270 AbPk AbF211 AbF286 AbF328 AbPl AbF222 AbF353 AbF379 AbF380 AbF351 AbF320 AbF321 AbF354 AbF323 AbF352 AbF322 AbF280 AbPm AbF210 AbF281 AbF324 AbF325 AbF326 AbF282 AbPn AbF327 AbF283 AbF284 AbF285 AbPo AbF223 AbF224 AbF157 AbF112v0 AbF112v1 AbF112vr0 AbF112vr1 AbF112 AbF88 -/
import Derived.ChangeArms
import Derived.ChangeShapes
import Derived.IntWalk
import Derived.Test.YtmfcobjnlabpoaaGreatAbB2
set_option linter.unusedVariables false
set_option linter.unusedSimpArgs false
set_option linter.unusedSectionVars false
namespace Go.Proofs.YtmfcobjnlabpoaaGreat
open Go Go.Ab
theorem bcases(b:Bool):b=true∨b=false:=by cases b<;>simp
theorem forall_nil{α:Type}{p:α->Prop}:∀x∈([]:List α),p x:=fun _ h=>nomatch h
theorem forall_cons{α:Type}{p:α->Prop}{a:α}{l:List α}(h:p a)(k:∀x∈l,p x):∀x∈a::l,p x:=by
 intro x hx
 rcases List.mem_cons.1 hx with rfl|hx
 ·exact h
 ·exact k x hx
theorem o0:OL Tryz.prog [] []:=OL.nil
abbrev mB (M:Mach) (i:Nat):Blk:=.cells [slv entL M.l .no,.mp i 0,slv intC M.args .no,slv intC M.own .no]
abbrev mR (M:Mach):Blk:=.cells [slv entL M.rl .no,slv conL M.parts .no]
theorem tv:True:=trivial
theorem lz{a b:Nat}(h:Nat.ble (a+1) b=true):a<b:=Nat.le_of_ble_eq_true h
abbrev Ct:=CT Tryz.prog
abbrev Ci:=CTri Tryz.prog
abbrev Cf:=FuncId->List Blk->List AV->AV->List Blk->Nat->Prop
abbrev Qf (f:FuncId) (fn:Func):Prop:=Tryz.prog.funcs[f]? = some fn∧fn.body.isNone=false
section
variable {f:FuncId} {fn:Func} {H0 H1:List Blk} {args:List AV} {res:AV} {nst:Nat} {os:List Orc} {ob:List Ob}
theorem tF(q:Qf f fn)(m:Nat)(keep:List Nat)(k:OL Tryz.prog os ob)(h:kfin Tryz.prog prim H0.length fn 3000 (.run (bod fn)) [] (args++List.replicate (fn.ntmps-args.length) (.val undef)) (st0 H0) ((nos m++os).reverseAux []) [] keep [] false=some (res,H1,ob.reverseAux []):=by kernel_rfl):CTri Tryz.prog f H0 args res H1 0:=OL.toFin prim_ok mixed q m [] keep [] false k h (Nat.le_refl _)
theorem tG(q:Qf f fn)(m:Nat)(rs:List (Option Nat×Nat×Nat))(keep ks:List Nat)(own:Bool)(k:OL Tryz.prog os ob)(h:kfin Tryz.prog prim H0.length fn 3000 (.run (bod fn)) [] (args++List.replicate (fn.ntmps-args.length) (.val undef)) (st0 H0) ((nos m++os).reverseAux []) rs keep ks own=some (res,H1,ob.reverseAux []):=by kernel_rfl)(hn:nst≤ks.length:=by decide):CTri Tryz.prog f H0 args res H1 nst:=OL.toFin prim_ok mixed q m rs keep ks own k h hn
theorem tH(q:Qf f fn)(m:Nat)(rs:List (Option Nat×Nat×Nat))(keep ks live:List Nat)(k:OL Tryz.prog os ob){c:Code}{fs':List Fr}{E:(Nat->Value)->List AV}{S:LSt}(hk:∀j,Dl Tryz.prog H0.length c (E j) S (frameQ Tryz.prog H0.length (FinQ Tryz.prog H0.length fn res H1 nst) fs'))(h:∀j,khead Tryz.prog prim H0.length 3000 (.run (bod fn)) [] (args++List.replicate (fn.ntmps-args.length) (.val undef)) (st0 H0) ((nos m++os).reverseAux []) rs keep ks live j=some (c,fs',E j,S,ob.reverseAux []):=by intro j;kernel_rfl):CTri Tryz.prog f H0 args res H1 nst:=OL.toHead prim_ok mixed q m rs keep ks live k hk h
variable {na:Nb} {Q:AX->List AV->LSt->Prop} {c c':Code} {fs fs':List Fr} {env:List AV} {s S:LSt}
theorem lH(m:Nat)(rs:List (Option Nat×Nat×Nat))(keep ks live:List Nat)(k:OL Tryz.prog os ob){E:(Nat->Value)->List AV}(hk:∀j,Dl Tryz.prog na c' (E j) S (frameQ Tryz.prog na Q fs'))(h:∀j,khead Tryz.prog prim na.n 3000 (.run c) (.loop c::fs) env s ((nos m++os).reverseAux []) rs keep ks live j=some (c',fs',E j,S,ob.reverseAux []):=by intro j;kernel_rfl):Dl Tryz.prog na c env s (frameQ Tryz.prog na Q fs):=OL.lHead prim_ok mixed m rs keep ks live k hk h
theorem lF(m:Nat)(keep:List Nat)(k:OL Tryz.prog os ob)(h:kfin Tryz.prog prim na.n fn 3000 (.run c) (.loop c::fs) env s ((nos m++os).reverseAux []) [] keep [] false=some (res,H1,ob.reverseAux []):=by kernel_rfl):Dl Tryz.prog na c env s (frameQ Tryz.prog na (FinQ Tryz.prog na fn res H1 0) fs):=OL.lFin prim_ok mixed m [] keep [] false k h (Nat.le_refl _)
theorem lG(m:Nat)(rs:List (Option Nat×Nat×Nat))(keep ks:List Nat)(own:Bool)(k:OL Tryz.prog os ob)(h:kfin Tryz.prog prim na.n fn 3000 (.run c) (.loop c::fs) env s ((nos m++os).reverseAux []) rs keep ks own=some (res,H1,ob.reverseAux []):=by kernel_rfl)(hn:nst≤ks.length:=by decide):Dl Tryz.prog na c env s (frameQ Tryz.prog na (FinQ Tryz.prog na fn res H1 nst) fs):=OL.lFin prim_ok mixed m rs keep ks own k h hn
end
theorem info25:Tryz.prog.info? 25=some Tryz.t25:=by kernel_rfl
theorem apN23{l m r:List Tm}(h:gapp 40 l m=some r)(hm:m.length=0):Ob.ok Tryz.prog (.app 23 23 (flat tmCells l) (flat tmCells m) (flat tmCells r) l.length m.length r.length 3 true):=app_none' codecT Tryz.underlying23 info25 rfl rfl rfl (by decide) rfl (by decide) h hm
theorem info3:Tryz.prog.info? 3=some Tryz.t3:=by kernel_rfl
theorem apN41{l m r:List Int}(h:gapp 8 l m=some r)(hm:m.length=0):Ob.ok Tryz.prog (.app 41 41 (flat intC l) (flat intC m) (flat intC r) l.length m.length r.length 1 true):=app_none' codecI Tryz.underlying41 info3 rfl rfl rfl (by decide) rfl (by decide) h hm
theorem info5:Tryz.prog.info? 5=some Tryz.t5:=by kernel_rfl
theorem apN418{l m r:List U8}(h:gapp 1 l m=some r)(hm:m.length=0):Ob.ok Tryz.prog (.app 418 418 (flat u8C l) (flat u8C m) (flat u8C r) l.length m.length r.length 1 true):=app_none' codecU Tryz.underlying418 info5 rfl rfl rfl (by decide) rfl (by decide) h hm
theorem info192:Tryz.prog.info? 192=some Tryz.t192:=by kernel_rfl
theorem apN97{l m r:List R24Pat}(h:gapp 88 l m=some r)(hm:m.length=0):Ob.ok Tryz.prog (.app 97 97 (flat r24PatC l) (flat r24PatC m) (flat r24PatC r) l.length m.length r.length 7 true):=app_none' codecR24Pat Tryz.underlying97 info192 rfl rfl rfl (by decide) rfl (by decide) h hm
theorem apQ23{n:Nat}(h:n=0):Ob.ok Tryz.prog (.same 23 23 n):=same_ok Tryz.underlying23 info25 h
theorem apQ41{n:Nat}(h:n=0):Ob.ok Tryz.prog (.same 41 41 n):=same_ok Tryz.underlying41 info3 h
theorem apR23{l m r:List Tm}(h:gapp 40 l m=some r)(hm:m.length≠0):Ob.ok Tryz.prog (.mk (rapp Tryz.prog 23 23 (some 3) (flat tmCells l) l.length none (flat tmCells m) m.length) (flat tmCells r) r.length):=rappR_ok codecT Tryz.underlying23 info25 rfl rfl rfl (by decide) rfl (by decide) h hm
theorem apRn23{l l' m r:List Tm}{n:Nat}(hf:gfz n l=some l')(h:gapp 40 l' m=some r)(hm:m.length≠0):Ob.ok Tryz.prog (.mk (rapp Tryz.prog 23 23 (some 3) (flat tmCells l) n none (flat tmCells m) m.length) (flat tmCells r) r.length):=rappRn_ok codecT Tryz.underlying23 info25 rfl rfl rfl (by decide) rfl (by decide) hf h hm
theorem info9:Tryz.prog.info? 9=some Tryz.t9:=by kernel_rfl
theorem apS141{l m r:List ByteArray}(h:gapp 16 l m=some r)(hm:m.length≠0):Ob.ok Tryz.prog (.app 141 141 (flat strC l) (flat strC m) (flat strC r) l.length m.length r.length 1 false):=app_some codecS Tryz.underlying141 info9 rfl rfl rfl (by decide) rfl (by decide) h hm
theorem info43:Tryz.prog.info? 43=some Tryz.t43:=by kernel_rfl
theorem apS22{l m r:List Ent}(h:gapp 192 l m=some r)(hm:m.length≠0):Ob.ok Tryz.prog (.app 22 22 (flat entL l) (flat entL m) (flat entL r) l.length m.length r.length 15 false):=app_some codecE Tryz.underlying22 info43 rfl rfl rfl (by decide) rfl (by decide) h hm
theorem apS23{l m r:List Tm}(h:gapp 40 l m=some r)(hm:m.length≠0):Ob.ok Tryz.prog (.app 23 23 (flat tmCells l) (flat tmCells m) (flat tmCells r) l.length m.length r.length 3 false):=app_some codecT Tryz.underlying23 info25 rfl rfl rfl (by decide) rfl (by decide) h hm
theorem info253:Tryz.prog.info? 253=some Tryz.t253:=by kernel_rfl
theorem apS250{l m r:List Rec'}(h:gapp 56 l m=some r)(hm:m.length≠0):Ob.ok Tryz.prog (.app 250 250 (flat recL l) (flat recL m) (flat recL r) l.length m.length r.length 3 false):=app_some codecR Tryz.underlying250 info253 rfl rfl rfl (by decide) rfl (by decide) h hm
theorem apS41{l m r:List Int}(h:gapp 8 l m=some r)(hm:m.length≠0):Ob.ok Tryz.prog (.app 41 41 (flat intC l) (flat intC m) (flat intC r) l.length m.length r.length 1 false):=app_some codecI Tryz.underlying41 info3 rfl rfl rfl (by decide) rfl (by decide) h hm
theorem apS418{l m r:List U8}(h:gapp 1 l m=some r)(hm:m.length≠0):Ob.ok Tryz.prog (.app 418 418 (flat u8C l) (flat u8C m) (flat u8C r) l.length m.length r.length 1 false):=app_some codecU Tryz.underlying418 info5 rfl rfl rfl (by decide) rfl (by decide) h hm
theorem info99:Tryz.prog.info? 99=some Tryz.t99:=by kernel_rfl
theorem apS92{l m r:List R28Clause}(h:gapp 72 l m=some r)(hm:m.length≠0):Ob.ok Tryz.prog (.app 92 92 (flat r28ClauseL l) (flat r28ClauseL m) (flat r28ClauseL r) l.length m.length r.length 5 false):=app_some codecR28Clause Tryz.underlying92 info99 rfl rfl rfl (by decide) rfl (by decide) h hm
theorem info97:Tryz.prog.info? 97=some Tryz.t97:=by kernel_rfl
theorem apS96{l m r:List (List R24Pat)}(h:gapp 24 l m=some r)(hm:m.length≠0):Ob.ok Tryz.prog (.app 96 96 (flat (slC r24PatC) l) (flat (slC r24PatC) m) (flat (slC r24PatC) r) l.length m.length r.length 1 false):=app_some (codSl codecR24Pat) Tryz.underlying96 info97 rfl rfl rfl (by decide) rfl (by decide) h hm
theorem apS97{l m r:List R24Pat}(h:gapp 88 l m=some r)(hm:m.length≠0):Ob.ok Tryz.prog (.app 97 97 (flat r24PatC l) (flat r24PatC m) (flat r24PatC r) l.length m.length r.length 7 false):=app_some codecR24Pat Tryz.underlying97 info192 rfl rfl rfl (by decide) rfl (by decide) h hm
theorem apW23{m r:List Tm}(h:gapp 40 ([]:List Tm) m=some r)(hm:m.length≠0):Ob.ok Tryz.prog (.mk (rapp Tryz.prog 23 23 (none) [] 0 none (flat tmCells m) m.length) (flat tmCells r) r.length):=rappN_ok codecT Tryz.underlying23 info25 rfl rfl rfl (by decide) rfl (by decide) h hm
theorem apW41{m r:List Int}(h:gapp 8 ([]:List Int) m=some r)(hm:m.length≠0):Ob.ok Tryz.prog (.mk (rapp Tryz.prog 41 41 (none) [] 0 none (flat intC m) m.length) (flat intC r) r.length):=rappN_ok codecI Tryz.underlying41 info3 rfl rfl rfl (by decide) rfl (by decide) h hm
theorem cv418_9(l:List U8){o:Own}:aconvert Tryz.prog 418 9 (.sl (flat u8C l) l.length o)=some (at' (gstr l)):=cvStr_ok Tryz.underlying418 Tryz.underlying9 Tryz.underlying5 l
theorem info196:Tryz.prog.info? 196=some Tryz.t196:=by kernel_rfl
theorem ix106{l:List PatternPat}{i:Int}{o:Own}{x:PatternPat}(h:gidx l i=some x):aindexAddr Tryz.prog 106 (.sl (flat patternPatC l) l.length o) (ai i)=some (.ip (patternPatL x++flat patternPatC (l.drop (i.toNat+1)))):=by
 have:=ix_ok codecPatternPat (k:=.i64) Tryz.underlying106 info196 rfl h (o:=o)
 rw[patternPat_eq]at this
 exact this
theorem ix141{l:List ByteArray}{i:Int}{o:Own}{x:ByteArray}(h:gidx l i=some x):aindexAddr Tryz.prog 141 (.sl (flat strC l) l.length o) (ai i)=some (.ip (strC x++flat strC (l.drop (i.toNat+1)))):=by
 have:=ix_ok codecS (k:=.i64) Tryz.underlying141 info9 rfl h (o:=o)
 exact this
theorem ix22{l:List Ent}{i:Int}{o:Own}{x:Ent}(h:gidx l i=some x):aindexAddr Tryz.prog 22 (.sl (flat entL l) l.length o) (ai i)=some (.ip (entL x++flat entL (l.drop (i.toNat+1)))):=by
 have:=ix_ok codecE (k:=.i64) Tryz.underlying22 info43 rfl h (o:=o)
 exact this
theorem ix23{l:List Tm}{i:Int}{o:Own}{x:Tm}(h:gidx l i=some x):aindexAddr Tryz.prog 23 (.sl (flat tmCells l) l.length o) (ai i)=some (.ip (tmL x++flat tmCells (l.drop (i.toNat+1)))):=by
 have:=ix_ok codecT (k:=.i64) Tryz.underlying23 info25 rfl h (o:=o)
 rw[tm_eq]at this
 exact this
theorem info252:Tryz.prog.info? 252=some Tryz.t252:=by kernel_rfl
theorem ix245{l:List Con'}{i:Int}{o:Own}{x:Con'}(h:gidx l i=some x):aindexAddr Tryz.prog 245 (.sl (flat conL l) l.length o) (ai i)=some (.ip (conL x++flat conL (l.drop (i.toNat+1)))):=by
 have:=ix_ok codecC (k:=.i64) Tryz.underlying245 info252 rfl h (o:=o)
 exact this
theorem ix250{l:List Rec'}{i:Int}{o:Own}{x:Rec'}(h:gidx l i=some x):aindexAddr Tryz.prog 250 (.sl (flat recL l) l.length o) (ai i)=some (.ip (recL x++flat recL (l.drop (i.toNat+1)))):=by
 have:=ix_ok codecR (k:=.i64) Tryz.underlying250 info253 rfl h (o:=o)
 exact this
theorem ix41{l:List Int}{i:Int}{o:Own}{x:Int}(h:gidx l i=some x):aindexAddr Tryz.prog 41 (.sl (flat intC l) l.length o) (ai i)=some (.ip (intC x++flat intC (l.drop (i.toNat+1)))):=by
 have:=ix_ok codecI (k:=.i64) Tryz.underlying41 info3 rfl h (o:=o)
 exact this
theorem info108:Tryz.prog.info? 108=some Tryz.t108:=by kernel_rfl
theorem ix91{l:List ClauseClause}{i:Int}{o:Own}{x:ClauseClause}(h:gidx l i=some x):aindexAddr Tryz.prog 91 (.sl (flat clauseClauseL l) l.length o) (ai i)=some (.ip (clauseClauseL x++flat clauseClauseL (l.drop (i.toNat+1)))):=by
 have:=ix_ok codecClauseClause (k:=.i64) Tryz.underlying91 info108 rfl h (o:=o)
 exact this
theorem ix92{l:List R28Clause}{i:Int}{o:Own}{x:R28Clause}(h:gidx l i=some x):aindexAddr Tryz.prog 92 (.sl (flat r28ClauseL l) l.length o) (ai i)=some (.ip (r28ClauseL x++flat r28ClauseL (l.drop (i.toNat+1)))):=by
 have:=ix_ok codecR28Clause (k:=.i64) Tryz.underlying92 info99 rfl h (o:=o)
 exact this
theorem ix96{l:List (List R24Pat)}{i:Int}{o:Own}{x:List R24Pat}(h:gidx l i=some x):aindexAddr Tryz.prog 96 (.sl (flat (slC r24PatC) l) l.length o) (ai i)=some (.ip ((slC r24PatC) x++flat (slC r24PatC) (l.drop (i.toNat+1)))):=by
 have:=ix_ok (codSl codecR24Pat) (k:=.i64) Tryz.underlying96 info97 rfl h (o:=o)
 exact this
theorem ix97{l:List R24Pat}{i:Int}{o:Own}{x:R24Pat}(h:gidx l i=some x):aindexAddr Tryz.prog 97 (.sl (flat r24PatC l) l.length o) (ai i)=some (.ip (r24PatL x++flat r24PatC (l.drop (i.toNat+1)))):=by
 have:=ix_ok codecR24Pat (k:=.i64) Tryz.underlying97 info192 rfl h (o:=o)
 rw[r24Pat_eq]at this
 exact this
theorem ixArr357{l:List Int}{i x:Int}(h:gidx l i=some x)(hl:l.length=9):aindex Tryz.prog 357 (.agg (flat intC l)) (ai i)=some (ai x):=ixArr_ok (k:=.i64) Tryz.underlying357 (q:=(false,1)) (by kernel_rfl) rfl hl h
theorem ixM23{b n k c z:Nat}{i:Int}(h:gchk n i=some k):aindexAddr Tryz.prog 23 (.ms b 0 n c z) (ai i)=some (.mp b (k*3)):=chk_ok Tryz.underlying23 info25 rfl h
theorem ixM245{b n k c z:Nat}{i:Int}(h:gchk n i=some k):aindexAddr Tryz.prog 245 (.ms b 0 n c z) (ai i)=some (.mp b (k*3)):=chk_ok Tryz.underlying245 info252 rfl h
theorem ixStr9{s:ByteArray}{i x:Int}(h:gbyte s i=some x):aindex Tryz.prog 9 (at' s) (ai i)=some (.val (.int .u8 x)):=ixStr_ok Tryz.underlying9 h
theorem lk354(m:List (ByteArray×Int))(k:ByteArray):Ob.ok Tryz.prog (.lk 354 (smap m) (at' k) false (ai (mget m k))):=lk_ok Tryz.underlying354 Tryz.underlying9 info3 rfl m k
theorem mkM245{n:Int}{l:List Con'}(h:gmk 72 (default:Con') n=some l):Ob.ok Tryz.prog (.mk (amakems Tryz.prog 245 (ai n) (ai n)) (flat conL l) l.length):=mk_ok Tryz.underlying245 info252 rfl rfl rfl (by decide) rfl (by decide) (by rfl) h
theorem mu354(m:List (ByteArray×Int))(k:ByteArray)(v:Int):Ob.ok Tryz.prog (.mu 354 (smap m) (at' k) (ai v) (smap (mset m k v))):=mu_ok Tryz.underlying354 Tryz.underlying9 m k v
theorem slFrom23{l r:List Tm}{a:Int}(h:gsl l a l.length=some r):aslice Tryz.prog 23 (.sl (flat tmCells l) l.length .no) (some (ai a)) none none=some (.sl (flat tmCells r) r.length .no):=sliceFrom_ok codecT Tryz.underlying23 info25 rfl h
theorem slFromO23{l r:List Tm}{a:Int}{o:Own}(h:gsl l a l.length=some r):∃a0,aslice Tryz.prog 23 (.sl (flat tmCells l) l.length o) (some (ai a)) none none=some a0∧a0.frz = .sl (flat tmCells r) r.length .no:=sliceFromO_ok codecT Tryz.underlying23 info25 rfl h
theorem slStr9{s r:ByteArray}{a b:Int}(h:gsub s a b=some r):aslice Tryz.prog 9 (at' s) (some (ai a)) (some (ai b)) none=some (at' r):=slStr_ok Tryz.underlying9 h
theorem slTo23{l r:List Tm}{b:Int}(h:gsl l 0 b=some r):aslice Tryz.prog 23 (.sl (flat tmCells l) l.length .no) none (some (ai b)) none=some (.sl (flat tmCells r) r.length .no):=sliceTo_ok codecT Tryz.underlying23 info25 rfl h
theorem slTo97{l r:List R24Pat}{b:Int}(h:gsl l 0 b=some r):aslice Tryz.prog 97 (.sl (flat r24PatC l) l.length .no) none (some (ai b)) none=some (.sl (flat r24PatC r) r.length .no):=sliceTo_ok codecR24Pat Tryz.underlying97 info192 rfl h
theorem slToO23{l r:List Tm}{b:Int}{o:Own}(h:gsl l 0 b=some r):∃a0,aslice Tryz.prog 23 (.sl (flat tmCells l) l.length o) none (some (ai b)) none=some a0∧a0.frz = .sl (flat tmCells r) r.length .no:=sliceToO_ok codecT Tryz.underlying23 info25 rfl h
theorem slToO97{l r:List R24Pat}{b:Int}{o:Own}(h:gsl l 0 b=some r):∃a0,aslice Tryz.prog 97 (.sl (flat r24PatC l) l.length o) none (some (ai b)) none=some a0∧a0.frz = .sl (flat r24PatC r) r.length .no:=sliceToO_ok codecR24Pat Tryz.underlying97 info192 rfl h
end Go.Proofs.YtmfcobjnlabpoaaGreat
namespace Go.Ab
open Go
def Evt{α:Type}(f:Nat->Option α)(r:α):Prop:=∃n,∀q,n≤q->f q=some r
section
variable {α β:Type} {f:Nat->Option α} {r a:α} {b:β}
theorem Evt.mk(h:∀q,f q=some r):Evt f r:=⟨0,fun q _=>h q⟩
theorem Evt.ret{r:α}:Evt (fun _=>some r) r:=⟨0,fun _ _=>rfl⟩
theorem Evt.succ(h:Evt (fun q=>f (q+1)) r):Evt f r:=by
 obtain⟨n,h⟩:=h
 refine⟨n+1,fun q hq=>?_⟩
 obtain⟨k,rfl⟩:∃k,q=k+1:=⟨q-1,by omega⟩
 exact h k (by omega)
theorem Evt.bind{k:Nat->α->Option β}(h:Evt f a)(g:Evt (fun q=>k q a) b):Evt (fun q=>f q>>=k q) b:=by
 obtain⟨n,h⟩:=h;obtain⟨m,g⟩:=g
 refine⟨max n m,fun q hq=>?_⟩
 dsimp only
 rw[h q (by omega)]
 exact g q (by omega)
theorem Evt.pure{x:Option α}{k:Nat->α->Option β}(h:x=some a)(g:Evt (fun q=>k q a) b):Evt (fun q=>x>>=k q) b:=by
 subst h;exact g
theorem Evt.ifT{c:Bool}{g:Nat->Option α}(h:c=true)(k:Evt f r):Evt (fun q=>if c=true then f q else g q) r:=by
 simpa[h]using k
theorem Evt.ifF{c:Bool}{g:Nat->Option α}(h:c=false)(k:Evt g r):Evt (fun q=>if c=true then f q else g q) r:=by
 simpa[h]using k
theorem Evt.iff{c:Bool}{g:Nat->Option α}(h:c=true->Evt f r)(k:c=false->Evt g r):Evt (fun q=>if c=true then f q else g q) r:=by
 cases c
 ·simpa using k rfl
 ·simpa using h rfl
theorem Evt.det(h:Evt f r)(k:Evt f a):r=a:=by
 obtain⟨n,h⟩:=h;obtain⟨m,k⟩:=k
 have:=h (max n m) (by omega)
 rw[k _ (by omega)]at this
 exact(Option.some.inj this).symm
theorem Evt.at(h:Evt f r):∃q,f q=some r:=by obtain⟨n,h⟩:=h;exact⟨n,h n (Nat.le_refl _)⟩
theorem Evt.eq{s:α}(h:Evt f r)(e:r=s):Evt f s:=e▸h
end
def Tot{α:Type}(f:Nat->Option α)(P:α->Prop):Prop:=∃r,Evt f r∧P r
section
variable {α β:Type} {f:Nat->Option α} {P:α->Prop} {Q:β->Prop}
theorem Evt.tot{r:α}(h:Evt f r)(k:P r):Tot f P:=⟨r,h,k⟩
theorem Tot.ret{r:α}(k:P r):Tot (fun _=>some r) P:=⟨r,Evt.ret,k⟩
theorem Tot.succ(h:Tot (fun q=>f (q+1)) P):Tot f P:=by obtain⟨r,h,k⟩:=h;exact⟨r,h.succ,k⟩
theorem Tot.bind{k:Nat->α->Option β}(h:Tot f P)(g:∀a,P a->Tot (fun q=>k q a) Q):Tot (fun q=>f q>>=k q) Q:=by
 obtain⟨a,h,p⟩:=h;obtain⟨b,h2,k⟩:=g a p
 exact⟨b,h.bind h2,k⟩
theorem Tot.pure{x:Option α}{a:α}{k:Nat->α->Option β}(h:x=some a)(g:Tot (fun q=>k q a) Q):Tot (fun q=>x>>=k q) Q:=by
 subst h;exact g
theorem Tot.ite{c:Bool}{g:Nat->Option α}(h:c=true->Tot f P)(k:c=false->Tot g P):Tot (fun q=>if c=true then f q else g q) P:=by
 cases c
 ·simpa using k rfl
 ·simpa using h rfl
theorem Tot.mono{P':α->Prop}(h:Tot f P)(k:∀r,P r->P' r):Tot f P':=by obtain⟨r,h,p⟩:=h;exact⟨r,h,k r p⟩
end
end Go.Ab
namespace Go.Ab
open Go
theorem w64_id{x:Int}(h0:-9223372036854775808≤x)(h1:x≤9223372036854775807):w64 x=x:=by
 show IntKind.i64.wrap x=x
 exact IntWalk.i64_in x ⟨h0,h1⟩
theorem w64_nat(v:Nat)(h:v<9223372036854775807):w64 ((v:Int)+1)=((v+1:Nat):Int):=by
 rw[w64_id (by omega) (by omega)];simp
section
variable {α:Type} {l:List α} {v:Nat} {x:α} {r:List α}
theorem drop_lt(h:l.drop v=x::r):v<l.length:=by
 rcases Nat.lt_or_ge v l.length with h1|h1
 ·exact h1
 ·rw[List.drop_eq_nil_of_le h1]at h;cases h
theorem drop_dec(h:l.drop v=x::r):decide ((v:Int)<(l.length:Int))=true:=by
 have:=drop_lt h;simp;exact this
theorem drop_nil(h:l.drop v=[]):decide ((v:Int)<(l.length:Int))=false:=by
 have:l.length≤v:=List.drop_eq_nil_iff.1 h
 simp;exact this
theorem drop_idx(h:l.drop v=x::r):gidx l (v:Int)=some x:=by
 have h1:=drop_lt h
 have:l[v]? = some x:=by
  have:=congrArg (fun z=>z[0]?) h
  simpa using this
 unfold gidx
 rw[if_pos (by omega)];simpa using this
theorem drop_next(h:l.drop v=x::r):l.drop (v+1)=r:=by
 have:=congrArg List.tail h
 simpa using this
end
theorem gapp_ok{α:Type}{B:Nat}{l m:List α}(h:(l.length+m.length)*B≤140737488355328):gapp B l m=some (l++m):=by unfold gapp;rw[if_pos h]
mutual
def Tm.nodes:Tm->Nat
 | .mk _ _ l=>1+nodesL l
def nodesL:List Tm->Nat
 | []=>0
 |t::l=>t.nodes+nodesL l
end
mutual
def Tm.high:Tm->Nat
 | .mk _ _ l=>1+highL l
def highL:List Tm->Nat
 | []=>0
 |t::l=>max t.high (highL l)
end
mutual
def Tm.Ok:Tm->Prop
 | .mk _ _ l=>l.length<9223372036854775808∧OkL l
def OkL:List Tm->Prop
 | []=>True
 |t::l=>t.Ok∧OkL l
end
mutual
def szT:Tm->Int->Int
 | .mk _ _ l,h=>szL l (h+1)
def szL:List Tm->Int->Int
 | [],h=>h
 |t::l,h=>if h>8192 then h else szL l (szT t h)
end
mutual
theorem szT_b:∀(t:Tm) (h:Int),0≤h->h≤8192->h+1≤szT t h∧szT t h≤8193
 | .mk _ _ l,h,h0,h1=>by
  rw[szT]
  exact szL_b l (h+1) (by omega) (by omega)
theorem szL_b:∀(l:List Tm) (h:Int),0≤h->h≤8193->h≤szL l h∧szL l h≤8193
 | [],h,h0,h1=>by rw[szL];omega
 |t::l,h,h0,h1=>by
  rw[szL]
  split
  ·omega
  ·have:=szT_b t h h0 (by omega)
   have:=szL_b l (szT t h) (by omega) (by omega)
   omega
end
theorem nodes_pos(t:Tm):1≤t.nodes:=by cases t;rw[Tm.nodes];omega
mutual
theorem szT_eq:∀(t:Tm) (h:Int),0≤h->h≤8192->(h+t.nodes≤8192->szT t h=h+t.nodes)∧(8192<h+t.nodes->szT t h=8193)
 | .mk _ _ l,h,h0,h1=>by
  rw[szT,Tm.nodes]
  have:=szL_eq l (h+1) (by omega) (by omega)
  constructor
  ·intro h2;rw[this.1 (by omega)];omega
  ·intro h2;exact this.2 (by omega)
theorem szL_eq:∀(l:List Tm) (h:Int),0≤h->h≤8193->(h+nodesL l≤8192->szL l h=h+nodesL l)∧(8192<h+nodesL l->szL l h=8193)
 | [],h,h0,h1=>by rw[szL,nodesL];omega
 |t::l,h,h0,h1=>by
  rw[szL,nodesL]
  have hp:=nodes_pos t
  split
  ·omega
  ·have ht:=szT_eq t h h0 (by omega)
   have hb:=szT_b t h h0 (by omega)
   have hl:=szL_eq l (szT t h) (by omega) (by omega)
   constructor
   ·intro h2
    have e:=ht.1 (by omega)
    rw[e]at hl ⊢
    rw[hl.1 (by omega)];omega
   ·intro h2
    by_cases h3:h+t.nodes≤8192
    ·have e:=ht.1 h3
     rw[e]at hl ⊢
     exact hl.2 (by omega)
    ·exact hl.2 (by rw[ht.2 (by omega)];omega)
end
mutual
def dpT:Tm->Int->Int
 | .mk _ _ l,a=>if a>128 then a else dpL l a a
def dpL:List Tm->Int->Int->Int
 | [],_,m=>m
 |t::l,a,m=>dpL l a (imax m (dpT t (a+1)))
end
mutual
theorem dpT_b:∀(t:Tm) (a:Int),0≤a->a≤129->a≤dpT t a∧dpT t a≤129
 | .mk _ _ l,a,h0,h1=>by
  rw[dpT]
  split
  ·omega
  ·exact dpL_b l a a h0 (by omega) (by omega) (by omega)
theorem dpL_b:∀(l:List Tm) (a m:Int),0≤a->a≤128->a≤m->m≤129->m≤dpL l a m∧dpL l a m≤129
 | [],a,m,h0,h1,h2,h3=>by rw[dpL];omega
 |t::l,a,m,h0,h1,h2,h3=>by
  rw[dpL]
  have:=dpT_b t (a+1) (by omega) (by omega)
  have:=dpL_b l a (imax m (dpT t (a+1))) h0 h1 (by unfold imax;split<;>omega) (by unfold imax;split<;>omega)
  unfold imax at this ⊢
  split at this<;>split<;>omega
end
mutual
theorem dpT_eq:∀(t:Tm) (a:Int),0≤a->a≤129->(a+t.high≤129->dpT t a=a+t.high-1)∧(129<a+t.high->dpT t a=129)
 | .mk _ _ l,a,h0,h1=>by
  rw[dpT,Tm.high]
  split
  ·omega
  ·have:=dpL_eq l a a h0 (by omega) (by omega) (by omega)
   constructor
   ·intro h2;rw[this.1 (by omega) (by omega)];omega
   ·intro h2;exact this.2 (.inr (by omega))
theorem dpL_eq:∀(l:List Tm) (a m:Int),0≤a->a≤128->a≤m->m≤129->(m≤128->a+highL l≤128->dpL l a m=max m (a+highL l))∧((m=129∨128<a+highL l)->dpL l a m=129)
 | [],a,m,h0,h1,h2,h3=>by rw[dpL,highL];omega
 |t::l,a,m,h0,h1,h2,h3=>by
  rw[dpL,highL]
  have ht:=dpT_eq t (a+1) (by omega) (by omega)
  have hb:=dpT_b t (a+1) (by omega) (by omega)
  have hm:a≤imax m (dpT t (a+1))∧imax m (dpT t (a+1))≤129:=by unfold imax;split<;>omega
  have hl:=dpL_eq l a (imax m (dpT t (a+1))) h0 h1 hm.1 hm.2
  have hh:1≤t.high:=by cases t;rw[Tm.high];omega
  constructor
  ·intro h4 h5
   have e:=ht.1 (by omega)
   rw[e]at hl ⊢
   have hi:imax m (a+1+t.high-1)=max m (a+t.high):=by unfold imax;split<;>omega
   rw[hi]at hl ⊢
   rw[hl.1 (by omega) (by omega)];omega
  ·intro h4
   refine hl.2 ?_
   rcases h4 with h4|h4
   ·exact .inl (by unfold imax;split<;>omega)
   ·by_cases h5:128<a+highL l
    ·exact .inr h5
    ·refine .inl ?_
     have e:dpT t (a+1)=129:=by
      by_cases h6:a+1+t.high≤129
      ·omega
      ·exact ht.2 (by omega)
     rw[e];unfold imax;split<;>omega
end
def headT(t:Tm):Bool:=
  decide (1≤t.k)&&decide (t.k≤8)&&decide (0≤t.n) &&
  (if t.k=3∨t.k=4∨t.k=5 then decide (t.sub.length=2)&&decide (t.n≤0)
   else if t.k=7 then decide (t.sub.length=1)&&decide (t.n≤1048576)&&(t.sub.head?.any fun x=>x.k==2)
   else decide (t.sub.length=0)&&(if t.k=2 then decide (t.n≤7)else decide (t.n≤1048576)))
theorem head_spec{t:Tm}(h:headT t=true):1≤t.k∧t.k≤8∧0≤t.n∧t.n≤1048576∧t.sub.length≤2 ∧
  (t.k=3∨t.k=4∨t.k=5->t.sub.length=2∧t.n≤0)∧(t.k=7->∃x,t.sub=[x]∧x.k=2)∧(t.k=1∨t.k=2∨t.k=6∨t.k=8->t.sub=[])∧(t.k=2->t.n≤7):=by
 unfold headT at h
 revert h
 generalize t.k=k
 generalize t.n=n
 generalize t.sub=l
 intro h
 simp only[Bool.and_eq_true,decide_eq_true_eq]at h
 obtain⟨⟨⟨h1,h2⟩,h3⟩,h4⟩:=h
 split at h4
 ·simp only[Bool.and_eq_true,decide_eq_true_eq]at h4
  refine⟨h1,h2,h3,by omega,by omega,fun _=>h4,by omega,by omega,by omega⟩
 ·split at h4
  ·simp only[Bool.and_eq_true,decide_eq_true_eq]at h4
   obtain⟨⟨h5,h6⟩,h7⟩:=h4
   obtain⟨x,rfl⟩:∃x,l=[x]:=by
    rcases l with _|⟨x,_|⟨y,l⟩⟩<;>simp at h5
    exact⟨x,rfl⟩
   refine⟨h1,h2,h3,h6,by simp,by omega,fun _=>⟨x,rfl,by simpa using h7⟩,by omega,by omega⟩
  ·simp only[Bool.and_eq_true,decide_eq_true_eq]at h4
   have hl:l=[]:=List.length_eq_zero_iff.1 h4.1
   refine⟨h1,h2,h3,?_,by omega,by omega,by omega,fun _=>hl,fun h8=>?_⟩
   ·have:=h4.2
    split at this<;>(simp at this;omega)
   ·have:=h4.2
    rw[if_pos h8]at this
    simpa using this
mutual
def goodT:Tm->Bool
 | .mk k n l=>headT (.mk k n l)&&goodL l
def goodL:List Tm->Bool
 | []=>true
 |t::l=>goodT t&&goodL l
end
def shapedT(t:Tm):Bool:=decide (t.nodes≤8192)&&decide (t.high≤128)&&goodT t
def undT(k:Int)(i:Nat):Int:=if i=1∧(k=3∨k=4)then 1 else 0
mutual
def looT:Tm->Int->Int
 | .mk k n l,b=>if k=1 then max 0 (n+1-b)else looL l k 0 b
def looL:List Tm->Int->Nat->Int->Int
 | [],_,_,_=>0
 |t::l,k,i,b=>max (looT t (b+undT k i)) (looL l k (i+1) b)
end
mutual
def colT:Tm->Int->Int->List Int
 | .mk k n l,a,b=>(if k=a∨k=b then [n]else [])++colL l a b
def colL:List Tm->Int->Int->List Int
 | [],_,_=>[]
 |t::l,a,b=>colT t a b++colL l a b
end
end Go.Ab
namespace Go.Ab
open Go Go.RowKit
def rdG(W:World):Gh:=⟨fun _=>none,fun _=>none,fun b o=>∃v,W.cell? ⟨b,o,none⟩=some v,W,fun b=>b<W.heap.size⟩
theorem rd_rel(W:World):RelS (rdG W) (over (Emp 0) (st0 [])) W:=by
 refine⟨fun _=>⟨fun _=>rfl,fun _=>rfl⟩,⟨0,fun _ _=>rfl⟩,fun _ _ _ h=>?_,fun _ _ _ h=>?_,fun _ _ h=>⟨h,fun i e=>by cases e⟩,fun _ _=>rfl,fun _ h=>?_,fun _ _ _ _ _ _ _ h=>?_,Keep.refl _ _,fun _ h=>h⟩
 ·cases h
 ·cases h
 ·cases h
 ·cases h
theorem rd_base(W:World):Base (0:Nat) (rdG W):=⟨fun _ _=>rfl,fun _=>rfl,fun _ _ ⟨_,h⟩=>World.block_lt_of_cell? W _ h,trivial⟩
theorem rd_cells{W:World}:∀(xs:List AV) (cs:List Value) (b off:Nat),VL (rdG W) W xs cs->(∀i,i<xs.length->W.cell? ⟨b,off+i,none⟩=cs[i]?)->VC (rdG W) W xs b off
 | [],_,_,_,_,_=>by simp only[VC]
 |a::xs,c::cs,b,off,hv,h=>by
  simp only[VL]at hv
  have h0:=h 0 (by simp)
  simp only[Nat.add_zero,List.getElem?_cons_zero]at h0
  simp only[VC]
  refine⟨⟨c,h0⟩,⟨c,h0,hv.1⟩,rd_cells xs cs b (off+1) hv.2 fun i hi=>?_⟩
  have:=h (i+1) (by simp;omega)
  simpa[Nat.add_assoc,Nat.add_comm 1 i]using this
 |_::_,[],_,_,hv,_=>by simp only[VL]at hv
theorem rd_elems{W:World}{b:Nat}:∀(n off:Nat),(∀i,i<n->∃(cs:List Value) (t:Tm),(∀j,j<3->W.cell? ⟨b,off+i*3+j,none⟩=cs[j]?)∧VL (rdG W) W (tmL t) cs∧t.Ok) ->
  ∃l:List Tm,l.length=n∧VC (rdG W) W (flat tmCells l) b off∧OkL l
 |0,off,_=>⟨[],rfl,by simp[flat,VC],by rw[OkL];trivial⟩
 |n+1,off,h=>by
  obtain⟨cs,t,hc,ht,hto⟩:=h 0 (by omega)
  obtain⟨l,hl,hV,hlo⟩:=rd_elems (W:=W) (b:=b) n (off+3) fun i hi=>by
   obtain⟨cs,t,hc,ht,hto⟩:=h (i+1) (by omega)
   refine⟨cs,t,fun j hj=>?_,ht,hto⟩
   rw[←hc j hj]
   congr 2
   omega
  refine⟨t::l,by simp[hl],?_,by rw[OkL];exact⟨hto,hlo⟩⟩
  have e:flat tmCells (t::l)=tmL t++flat tmCells l:=by simp only[flat,List.flatMap_cons,tm_eq]
  rw[e]
  refine VC.append _ _ _ _ (rd_cells _ cs _ _ ht fun i hi=>?_) (by simpa[tmL]using hV)
  simpa using hc i (by simpa[tmL]using hi)
end Go.Ab
namespace Go.Proofs.YtmfcobjnlabpoaaGreat
open Go Go.Ab Go.RowKit Go.Proofs
theorem rd_list{H:Type}{enc:TypeId×Value->H}{W:World}{n:Nat}{c2:Value}{x:DataW H×List MemPlace}
  (ih:∀m,n=m+1->∀(cs:List Value) (x:DataW H×List MemPlace),DataW.trod enc Tryz.prog W 0 (fun _=>true) true m 25 cs=some x->∃t:Tm,VL (rdG W) W (tmL t) cs∧t.Ok)
  (f2:DataW.trod enc Tryz.prog W 0 (fun _=>true) true n 23 [c2]=some x):∃l:List Tm,V (rdG W) W (.sl (flat tmCells l) l.length .no) c2∧OkL l∧l.length<9223372036854775808:=by
 rcases DataW.trod_slice Tryz.underlying23 f2 with⟨e2,-⟩|⟨a,len,cap,elems,rest,m,hm,e2,-,-,hle,hmx,hel,hE,hR,-⟩
 ·cases e2
  exact⟨[],by simp only[V];exact⟨0,Nat.le_refl _,.inl ⟨rfl,rfl,rfl,rfl,trivial⟩⟩,by rw[OkL];trivial,by simp⟩
 ·cases e2
  have rd:∀i,i<cap->∃(cs:List Value) (t:Tm),W.cells? 0 (a.add (i*3)) 3=some cs∧VL (rdG W) W (tmL t) cs∧t.Ok:=by
   intro i hi
   have got:∃y,(W.cells? 0 (a.add (i*3)) 3).bind (DataW.trod enc Tryz.prog W 0 (fun _=>true) true m 25)=some y:=by
    rw[←termCells]
    rcases Nat.lt_or_ge i len with hlt|hge
    ·rw[hE i hlt];exact⟨_,List.getElem?_eq_getElem (by omega)⟩
    ·obtain⟨r1,r2⟩:=hR rfl
     have:=r2 (i-len) (by omega)
     rw[show len+(i-len)=i by omega]at this
     rw[this];exact⟨_,List.getElem?_eq_getElem (by omega)⟩
   obtain⟨y,hy⟩:=got
   obtain⟨cs,h1,h2⟩:=Option.bind_eq_some_iff.1 hy
   obtain⟨t,ht⟩:=ih m hm cs y h2
   exact⟨cs,t,h1,ht⟩
  rcases Nat.eq_zero_or_pos cap with e|hpos
  ·subst e
   have:len=0:=by omega
   subst this
   exact⟨[],by simp only[V];exact⟨0,Nat.le_refl _,.inl ⟨rfl,rfl,rfl,rfl,trivial⟩⟩,by rw[OkL];trivial,by simp⟩
  ·obtain⟨b,off,spot⟩:=a
   have hsp:spot=none:=by
    obtain⟨cs,t,h1,h2⟩:=rd 0 hpos
    obtain⟨_,hl,hc⟩:=World.cells?_some h1
    have g0:=hc 0 (by omega)
    obtain⟨c0,hc0⟩:∃c0,cs[0]? = some c0:=⟨_,List.getElem?_eq_getElem (by omega)⟩
    rw[hc0]at g0
    simpa[Addr.add]using World.cell?_spot g0
   subst hsp
   obtain⟨l,hl,hV,hlo⟩:=rd_elems (W:=W) (b:=b) len off fun i hi=>by
    obtain⟨cs,t,h1,h2⟩:=rd i (by omega)
    obtain⟨_,_,hc⟩:=World.cells?_some h1
    exact⟨cs,t,fun j hj=>by have:=hc j hj;simpa[Addr.add_lit]using this,h2⟩
   refine⟨l,?_,hlo,by have:maxLen=9223372036854775807:=rfl;omega⟩
   simp only[V]
   exact⟨cap,by omega,.inr ⟨b,off,by rw[hl],hV,trivial⟩⟩
theorem rd_term{H:Type}{enc:TypeId×Value->H}{W:World}:∀(fuel:Nat) (cs:List Value) (x:DataW H×List MemPlace),DataW.trod enc Tryz.prog W 0 (fun _=>true) true fuel 25 cs=some x->∃t:Tm,VL (rdG W) W (tmL t) cs∧t.Ok:=by
 intro fuel
 induction fuel using Nat.strongRecOn with
 |ind fuel ih=>
  intro cs x h
  obtain⟨xs,n,hn,-,hlen,hxs,hf⟩:=DataW.trod_struct Tryz.underlying25 h
  have hlen:cs.length=3:=hlen.trans termCells
  obtain⟨c0,c1,c2,rfl⟩:∃c0 c1 c2,cs=[c0,c1,c2]:=by
   rcases cs with _|⟨a,_|⟨b,_|⟨c,_|⟨e,cs⟩⟩⟩⟩<;>simp only[List.length_nil,List.length_cons]at hlen<;>first|exact⟨a,b,c,rfl⟩|omega
  have c3:Tryz.prog.cellsOf 3=1:=by kernel_rfl
  have c21:Tryz.prog.cellsOf 23=1:=by kernel_rfl
  have f0:DataW.trod enc Tryz.prog W 0 (fun _=>true) true n 3 ((List.drop 0 [c0,c1,c2]).take (Tryz.prog.cellsOf 3))=xs[0]?:=hf 0 _ rfl
  have f1:DataW.trod enc Tryz.prog W 0 (fun _=>true) true n 3 ((List.drop 1 [c0,c1,c2]).take (Tryz.prog.cellsOf 3))=xs[1]?:=hf 1 _ rfl
  have f2:DataW.trod enc Tryz.prog W 0 (fun _=>true) true n 23 ((List.drop 2 [c0,c1,c2]).take (Tryz.prog.cellsOf 23))=xs[2]?:=hf 2 _ rfl
  rw[c3]at f0 f1
  rw[c21]at f2
  replace f0:DataW.trod enc Tryz.prog W 0 (fun _=>true) true n 3 [c0]=xs[0]?:=f0
  replace f1:DataW.trod enc Tryz.prog W 0 (fun _=>true) true n 3 [c1]=xs[1]?:=f1
  replace f2:DataW.trod enc Tryz.prog W 0 (fun _=>true) true n 23 [c2]=xs[2]?:=f2
  have hsz:xs.length=3:=hxs
  obtain⟨y0,y1,y2,rfl⟩:∃y0 y1 y2,xs=[y0,y1,y2]:=by
   rcases xs with _|⟨a,_|⟨b,_|⟨c,_|⟨e,xs⟩⟩⟩⟩<;>simp only[List.length_nil,List.length_cons]at hsz<;>first|exact⟨a,b,c,rfl⟩|omega
  simp only[List.getElem?_cons_zero,List.getElem?_cons_succ]at f0 f1 f2
  obtain⟨k0,e0,-,-⟩:=DataW.trod_int Tryz.underlying3 f0
  obtain⟨k1,e1,-,-⟩:=DataW.trod_int Tryz.underlying3 f1
  cases e0;cases e1
  have key:=rd_list (W:=W) (n:=n) (fun m hm cs x hx=>ih m (by omega) cs x hx) f2
  obtain⟨l,hl,ho,hlen⟩:=key
  refine⟨.mk k0 k1 l,?_,by rw[Tm.Ok];exact⟨hlen,ho⟩⟩
  simp only[tmL,Tm.k,Tm.n,Tm.sub,VL]
  exact⟨by simp only[V],by simp only[V],hl,trivial⟩
theorem rd_tms{H:Type}{enc:TypeId×Value->H}{W:World}{v:Value}{d:DataW H}{p:List MemPlace}(hv:∃(q:Option Addr) (m c:Nat),v = .slice q m c)
  (h:DataW.Trod enc Tryz.prog W 0 (fun _=>true) true 23 v d p):∃l:List Tm,V (rdG W) W (.sl (flat tmCells l) l.length .no) v∧OkL l∧l.length<9223372036854775808:=by
 obtain⟨q,m,c,rfl⟩:=hv
 obtain⟨fuel,hf⟩:=h
 exact rd_list (n:=fuel) (fun m _ cs x hx=>rd_term m cs x hx) (by simpa[Value.cells]using hf)
end Go.Proofs.YtmfcobjnlabpoaaGreat
namespace Go.Ab
open Go Go.RowKit
def Wt{H:Type}(P:Program)(t:TypeId)(d:DataW H):Prop:=∀w∈d.weights P t,w≤reachBytes
theorem wt_each{H:Type}{P:Program}:∀(ts:List TypeId) (ds:List (DataW H)) (i:Nat) (t:TypeId) (d:DataW H),ts[i]? = some t->ds[i]? = some d->∀w∈d.weights P t,w∈DataW.weightsEach P ts ds
 | [],_,i,t,d,h,_,w,_=>by simp at h
 |_::_,[],i,t,d,_,h,w,_=>by simp at h
 |t0::ts,d0::ds,0,t,d,h,k,w,hw=>by
  simp only[List.getElem?_cons_zero,Option.some.injEq]at h k
  subst h;subst k
  rw[DataW.weightsEach];exact List.mem_append_left _ hw
 |t0::ts,d0::ds,i+1,t,d,h,k,w,hw=>by
  rw[DataW.weightsEach]
  exact List.mem_append_right _ (wt_each ts ds i t d (by simpa using h) (by simpa using k) w hw)
theorem wt_all{H:Type}{P:Program}{e:TypeId}:∀(ds:List (DataW H)) (d:DataW H),d∈ds->∀w∈d.weights P e,w∈DataW.weightsAll P e ds
 |d0::ds,d,h,w,hw=>by
  rw[DataW.weightsAll]
  rcases List.mem_cons.1 h with rfl|h
  ·exact List.mem_append_left _ hw
  ·exact List.mem_append_right _ (wt_all ds d h w hw)
theorem wt_field{H:Type}{P:Program}{t:TypeId}{fs:Array Field}(ht:P.underlying t=some (.struct fs)){parts:List (DataW H)}(h:Wt P t (.agg parts)){i:Nat}{f:Field}{d:DataW H}(hf:fs[i]? = some f)(hd:parts[i]? = some d):Wt P f.type d:=fun w hw=>by
 refine h w ?_
 rw[DataW.weights,ht]
 exact wt_each _ _ i f.type d (by rw[List.getElem?_map,Array.getElem?_toList,hf];rfl) hd w hw
theorem wt_slice{H:Type}{P:Program}{t e:TypeId}(ht:P.underlying t=some (.slice e)){es rs:List (DataW H)}(h:Wt P t (.slice es rs)):(es.length+rs.length)*P.bytesOf e≤reachBytes∧(∀d∈es,Wt P e d)∧∀d∈rs,Wt P e d:=by
 unfold Wt at h
 rw[DataW.weights,ht]at h
 refine⟨h _ (by simp),fun d hd w hw=>h w ?_,fun d hd w hw=>h w ?_⟩
 ·exact List.mem_cons_of_mem _ (List.mem_append_left _ (wt_all es d hd w hw))
 ·exact List.mem_cons_of_mem _ (List.mem_append_right _ (wt_all rs d hd w hw))
theorem rd_elemsG{α:Type}(cells:α->List AV)(c:Nat)(hcl:∀x,(cells x).length=c){W:World}{b:Nat}{Q:α->Prop}:∀(n off:Nat),(∀i,i<n->∃(cs:List Value) (x:α),(∀j,j<c->W.cell? ⟨b,off+i*c+j,none⟩=cs[j]?)∧VL (rdG W) W (cells x) cs∧Q x) ->
  ∃l:List α,l.length=n∧VC (rdG W) W (flat cells l) b off∧∀x∈l,Q x
 |0,off,_=>⟨[],rfl,by simp[flat,VC],fun _ h=>nomatch h⟩
 |n+1,off,h=>by
  obtain⟨cs,t,hc,ht,hq⟩:=h 0 (by omega)
  obtain⟨l,hl,hV,hlo⟩:=rd_elemsG cells c hcl (W:=W) (b:=b) (Q:=Q) n (off+c) fun i hi=>by
   obtain⟨cs,t,hc,ht,hto⟩:=h (i+1) (by omega)
   refine⟨cs,t,fun j hj=>?_,ht,hto⟩
   rw[←hc j hj]
   congr 2
   rw[Nat.succ_mul];omega
  refine⟨t::l,by simp[hl],?_,fun x hx=>(List.mem_cons.1 hx).elim (fun e=>e▸hq) (hlo x)⟩
  have e:flat cells (t::l)=cells t++flat cells l:=by simp only[flat,List.flatMap_cons]
  rw[e]
  refine VC.append _ _ _ _ (rd_cells _ cs _ _ ht fun i hi=>?_) (by rw[hcl];exact hV)
  rw[hcl]at hi
  simpa using hc i hi
theorem rd_sliceG{α:Type}(cells:α->List AV)(c:Nat)(hcl:∀x,(cells x).length=c)(hpos:0<c){H:Type}{enc:TypeId×Value->H}{P:Program}{W:World}{n:Nat}{t e:TypeId}{c2:Value}{x:DataW H×List MemPlace}{Q:α->Prop}
  (ht:P.underlying t=some (.slice e)) (hc:P.cellsOf e=c)
  (ih:∀m,n=m+1->∀(cs:List Value) (x:DataW H×List MemPlace),DataW.trod enc P W 0 (fun _=>true) true m e cs=some x->Wt P e x.1->∃a:α,VL (rdG W) W (cells a) cs∧Q a)
  (f2:DataW.trod enc P W 0 (fun _=>true) true n t [c2]=some x) (hw:Wt P t x.1):∃l:List α,V (rdG W) W (.sl (flat cells l) l.length .no) c2∧(∀a∈l,Q a)∧l.length*P.bytesOf e≤reachBytes:=by
 rcases DataW.trod_slice ht f2 with⟨e2,-⟩|⟨a,len,cap,elems,rest,m,hm,e2,hx,-,hle,hmx,hel,hE,hR,-⟩
 ·cases e2
  exact⟨[],by simp only[V];exact⟨0,Nat.le_refl _,.inl ⟨rfl,rfl,rfl,rfl,trivial⟩⟩,fun _ h=>(nomatch h),by simp⟩
 ·cases e2
  rw[hx]at hw
  obtain⟨w1,w2,w3⟩:=wt_slice ht hw
  rw[hc]at hE hR
  have rd:∀i,i<cap->∃(cs:List Value) (t:α),W.cells? 0 (a.add (i*c)) c=some cs∧VL (rdG W) W (cells t) cs∧Q t:=by
   intro i hi
   have got:∃y,(W.cells? 0 (a.add (i*c)) c).bind (DataW.trod enc P W 0 (fun _=>true) true m e)=some y∧Wt P e y.1:=by
    rcases Nat.lt_or_ge i len with hlt|hge
    ·rw[hE i hlt];exact⟨_,List.getElem?_eq_getElem (by omega),w2 _ (List.mem_map_of_mem (List.getElem_mem _))⟩
    ·obtain⟨r1,r2⟩:=hR rfl
     have:=r2 (i-len) (by omega)
     rw[show len+(i-len)=i by omega]at this
     rw[this];exact⟨_,List.getElem?_eq_getElem (by omega),w3 _ (List.mem_map_of_mem (List.getElem_mem _))⟩
   obtain⟨y,hy,hyw⟩:=got
   obtain⟨cs,h1,h2⟩:=Option.bind_eq_some_iff.1 hy
   obtain⟨t,ht⟩:=ih m hm cs y h2 hyw
   exact⟨cs,t,h1,ht⟩
  rcases Nat.eq_zero_or_pos cap with e0|hp
  ·subst e0
   have:len=0:=by omega
   subst this
   exact⟨[],by simp only[V];exact⟨0,Nat.le_refl _,.inl ⟨rfl,rfl,rfl,rfl,trivial⟩⟩,fun _ h=>(nomatch h),by simp⟩
  ·obtain⟨b,off,spot⟩:=a
   have hsp:spot=none:=by
    obtain⟨cs,t,h1,h2⟩:=rd 0 hp
    obtain⟨_,hl,hcc⟩:=World.cells?_some h1
    have g0:=hcc 0 (by omega)
    obtain⟨c0,hc0⟩:∃c0,cs[0]? = some c0:=⟨_,List.getElem?_eq_getElem (by omega)⟩
    rw[hc0]at g0
    simpa[Addr.add]using World.cell?_spot g0
   subst hsp
   obtain⟨l,hl,hV,hlo⟩:=rd_elemsG cells c hcl (W:=W) (b:=b) (Q:=Q) len off fun i hi=>by
    obtain⟨cs,t,h1,h2⟩:=rd i (by omega)
    obtain⟨_,_,hcc⟩:=World.cells?_some h1
    exact⟨cs,t,fun j hj=>by have:=hcc j hj;simpa[Addr.add_lit]using this,h2⟩
   refine⟨l,?_,hlo,?_⟩
   ·simp only[V]
    exact⟨cap,by omega,.inr ⟨b,off,by rw[hl],hV,trivial⟩⟩
   ·rw[List.length_map,List.length_map,hel]at w1
    rw[hl]
    exact Nat.le_trans (Nat.mul_le_mul_right _ (Nat.le_add_right _ _)) w1
end Go.Ab
namespace Go.Proofs.YtmfcobjnlabpoaaGreat
open Go Go.Ab
mutual
def e289:Nat->Tm->Int->Option (Int)
 |0,_,_=>none
 |qq+1,p0,p1=>
 e289Laa qq p0 (w64 (p1+1)) 0
def e289Laa:Nat->Tm->Int->Int->Option (Int)
 |0,_,_,_=>none
 |qq+1,p0,v1,v12=>
 if decide (v12<(List.length p0.sub:Int))then
 gidx p0.sub v12>>=fun x2=>
 if decide (v1>8192)then
 some v1
 else
 e289 qq x2 v1>>=fun r5=>
 e289Laa qq p0 r5 (w64 (v12+1))
 else
 some v1
end
def g289LaaE0(j:Nat->Value)(p0:Tm)(v1 v12:Int):=sp j 23 0 [(1,ai v1),(10,slv tmCells p0.sub .no),(11,ai (List.length p0.sub:Int)),(12,ai v12)]
def g289LaaS0(p0:Tm)(v1 v12:Int):LSt:=⟨[],0,[],0,[]⟩
abbrev K289 (p0:Tm) (p1 r:Int) (C:Cf):Prop:=C 289 [] [tmA p0,ai p1] (ai r) [] 0
theorem q289:Qf 289 Tryz.f289:=⟨Tryz.func289,by kernel_rfl⟩
theorem k289{p0 p1 r}(h:K289 p0 p1 r Ci):K289 p0 p1 r Ct:=⟨h,⟨⟨tv,tv,⟨tv,dT _⟩,tv⟩,tv,tv⟩,forall_nil,tv,forall_nil⟩
theorem a289_289Laa:∀qq:Nat,(∀p0 p1 r,e289 qq p0 p1=some r->K289 p0 p1 r Ct)∧(∀p0 v1 v12 r,e289Laa qq p0 v1 v12=some r->(∀j,Dl Tryz.prog 0 (inn (inn (rgt (lft (rgt (rgt (bod Tryz.f289))))))) (g289LaaE0 j p0 v1 v12) (g289LaaS0 p0 v1 v12) (frameQ Tryz.prog 0 (FinQ Tryz.prog 0 Tryz.f289 (ai r) [] 0) [.blk 0,.seq (rgt (rgt (rgt (bod Tryz.f289))))]))):=by
 intro qq
 induction qq with
 |zero=>
  exact⟨fun _ _ _ h=>nn h,fun _ _ _ _ h=>nn h⟩
 |succ qq ih=>
  obtain⟨ih289,ih289Laa⟩:=ih
  refine⟨?_,?_⟩
  intro p0 p1 r h
  rw[e289]at h
  exact k289 (tH q289 3 [] [] [] [1,10,11,12] (oD (dT p0.sub) o0) (ih289Laa _ _ _ _ h))
  intro p0 v1 v12 r h
  rw[e289Laa]at h
  rcases spl h with⟨h1,h⟩|⟨h1,h⟩
  obtain⟨x2,h3,h⟩:=obind h
  have k:=oA 0 (ix23 (o:=.no) h3)<|oB 0 h1 o0
  rcases spl h with⟨h4,h⟩|⟨h4,h⟩
  obtain rfl:=sj h
  exact fun j=>lF 0 [] (oB 2 h4 k)
  obtain⟨r5,h6,h⟩:=obind h
  exact fun j=>lH 1 [] [] [] [1,10,11,12] (oD (dT p0.sub)<|oC 1 [] (ih289 _ _ _ h6)<|oB 2 h4 k) (ih289Laa _ _ _ _ h)
  obtain rfl:=sj h
  exact fun j=>lF 0 [] (oB 0 h1 o0)
theorem c289{qq p0 p1 r}(h:e289 qq p0 p1=some r):K289 p0 p1 r Ct:=(a289_289Laa _).1 _ _ _ h
def e227(qq:Nat)(p0:Tm):Option (Int):=
 e289 qq p0 0>>=fun r1=>
 some r1
abbrev K227 (p0:Tm) (r:Int) (C:Cf):Prop:=C 227 [] [tmA p0] (ai r) [] 0
theorem q227:Qf 227 Tryz.f227:=⟨Tryz.func227,by kernel_rfl⟩
theorem k227{p0 r}(h:K227 p0 r Ci):K227 p0 r Ct:=⟨h,⟨⟨tv,tv,⟨tv,dT _⟩,tv⟩,tv⟩,forall_nil,tv,forall_nil⟩
theorem c227{qq p0 r}(h:e227 qq p0=some r):K227 p0 r Ct:=by
 unfold e227 at h
 obtain⟨r1,h2,h⟩:=obind h
 obtain rfl:=sj h
 exact k227 (tF q227 0 [] (oC 1 [] (c289 h2) o0))
mutual
def e228:Nat->Tm->Int->Option (Int)
 |0,_,_=>none
 |qq+1,p0,p1=>
 if decide (p1>128)then
 some p1
 else
 e228Lab qq p0 p1 0 p1
def e228Lab:Nat->Tm->Int->Int->Int->Option (Int)
 |0,_,_,_,_=>none
 |qq+1,p0,p1,v15,v5=>
 if decide (v15<(List.length p0.sub:Int))then
 gidx p0.sub v15>>=fun x3=>
 e228 qq x3 (w64 (p1+1))>>=fun r5=>
 e228Lab qq p0 p1 (w64 (v15+1)) (imax v5 r5)
 else
 some v5
end
def g228LabE0(j:Nat->Value)(p0:Tm)(p1 v15 v5:Int):=sp j 27 0 [(1,ai p1),(5,ai v5),(13,slv tmCells p0.sub .no),(14,ai (List.length p0.sub:Int)),(15,ai v15)]
def g228LabS0(p0:Tm)(p1 v15 v5:Int):LSt:=⟨[],0,[],0,[]⟩
abbrev K228 (p0:Tm) (p1 r:Int) (C:Cf):Prop:=C 228 [] [tmA p0,ai p1] (ai r) [] 0
theorem q228:Qf 228 Tryz.f228:=⟨Tryz.func228,by kernel_rfl⟩
theorem k228{p0 p1 r}(h:K228 p0 p1 r Ci):K228 p0 p1 r Ct:=⟨h,⟨⟨tv,tv,⟨tv,dT _⟩,tv⟩,tv,tv⟩,forall_nil,tv,forall_nil⟩
theorem a228_228Lab:∀qq:Nat,(∀p0 p1 r,e228 qq p0 p1=some r->K228 p0 p1 r Ct)∧(∀p0 p1 v15 v5 r,e228Lab qq p0 p1 v15 v5=some r->(∀j,Dl Tryz.prog 0 (inn (inn (rgt (lft (rgt (rgt (rgt (bod Tryz.f228)))))))) (g228LabE0 j p0 p1 v15 v5) (g228LabS0 p0 p1 v15 v5) (frameQ Tryz.prog 0 (FinQ Tryz.prog 0 Tryz.f228 (ai r) [] 0) [.blk 0,.seq (rgt (rgt (rgt (rgt (bod Tryz.f228)))))]))):=by
 intro qq
 induction qq with
 |zero=>
  exact⟨fun _ _ _ h=>nn h,fun _ _ _ _ _ h=>nn h⟩
 |succ qq ih=>
  obtain⟨ih228,ih228Lab⟩:=ih
  refine⟨?_,?_⟩
  intro p0 p1 r h
  rw[e228]at h
  rcases spl h with⟨h1,h⟩|⟨h1,h⟩
  obtain rfl:=sj h
  exact k228 (tF q228 0 [] (oB 0 h1 o0))
  exact k228 (tH q228 2 [] [] [] [1,5,13,14,15] (oD (dT p0.sub)<|oB 0 h1 o0) (ih228Lab _ _ _ _ _ h))
  intro p0 p1 v15 v5 r h
  rw[e228Lab]at h
  rcases spl h with⟨h2,h⟩|⟨h2,h⟩
  obtain⟨x3,h4,h⟩:=obind h
  obtain⟨r5,h6,h⟩:=obind h
  exact fun j=>lH 2 [] [] [] [1,5,13,14,15] (oD (dT p0.sub)<|oC 4 [] (ih228 _ _ _ h6)<|oA 0 (ix23 (o:=.no) h4)<|oB 0 h2 o0) (ih228Lab _ _ _ _ _ h)
  obtain rfl:=sj h
  exact fun j=>lF 0 [] (oB 0 h2 o0)
theorem c228{qq p0 p1 r}(h:e228 qq p0 p1=some r):K228 p0 p1 r Ct:=(a228_228Lab _).1 _ _ _ h
def e163(qq:Nat)(p0:Tm):Option (Int):=
 e227 qq p0>>=fun r1=>
 if decide (r1>8192)then
 some 129
 else
 e228 qq p0 1>>=fun r4=>
 some r4
abbrev K163 (p0:Tm) (r:Int) (C:Cf):Prop:=C 163 [] [tmA p0] (ai r) [] 0
theorem q163:Qf 163 Tryz.f163:=⟨Tryz.func163,by kernel_rfl⟩
theorem k163{p0 r}(h:K163 p0 r Ci):K163 p0 r Ct:=⟨h,⟨⟨tv,tv,⟨tv,dT _⟩,tv⟩,tv⟩,forall_nil,tv,forall_nil⟩
theorem c163{qq p0 r}(h:e163 qq p0=some r):K163 p0 r Ct:=by
 unfold e163 at h
 obtain⟨r1,h2,h⟩:=obind h
 have k:=oC 1 [] (c227 h2) o0
 rcases spl h with⟨h3,h⟩|⟨h3,h⟩
 obtain rfl:=sj h
 exact k163 (tF q163 0 [] (oB 0 h3 k))
 obtain⟨r4,h5,h⟩:=obind h
 obtain rfl:=sj h
 exact k163 (tF q163 0 [] (oC 1 [] (c228 h5)<|oB 0 h3 k))
def e229(qq:Nat)(p0:Tm):Option (Bool):=
 if decide (p0.k<1)then
 some false
 else
 if decide (p0.k>8)then
 some false
 else
 gidx ([0,0,0,2,2,2,0,1,0]:List Int) p0.k>>=fun x3=>
 gidx ([0,1048576,7,0,0,0,1048576,1048576,1048576]:List Int) p0.k>>=fun x5=>
 if (List.length p0.sub:Int)==x3 then
 if decide (p0.n≥0)then
 if decide (p0.n≤x5)then
 if p0.k != 7 then
 some true
 else
 gidx p0.sub 0>>=fun x11=>
 some (x11.k==2)
 else
 some false
 else
 some false
 else
 some false
abbrev K229 (p0:Tm) (r:Bool) (C:Cf):Prop:=C 229 [] [tmA p0] (ab r) [] 0
theorem q229:Qf 229 Tryz.f229:=⟨Tryz.func229,by kernel_rfl⟩
theorem k229{p0 r}(h:K229 p0 r Ci):K229 p0 r Ct:=⟨h,⟨⟨tv,tv,⟨tv,dT _⟩,tv⟩,tv⟩,forall_nil,tv,forall_nil⟩
theorem c229{qq p0 r}(h:e229 qq p0=some r):K229 p0 r Ct:=by
 unfold e229 at h
 rcases spl h with⟨h1,h⟩|⟨h1,h⟩
 obtain rfl:=sj h
 exact k229 (tF q229 0 [] (oB 1 h1 o0))
 have k:=oB 1 h1 o0
 rcases spl h with⟨h2,h⟩|⟨h2,h⟩
 obtain rfl:=sj h
 exact k229 (tF q229 0 [] (oB 1 h2 k))
 obtain⟨x3,h4,h⟩:=obind h
 obtain⟨x5,h6,h⟩:=obind h
 have k:=oA 1 (ixArr357 h6 rfl)<|oA 1 (ixArr357 h4 rfl)<|oB 1 h2 k
 rcases spl h with⟨h7,h⟩|⟨h7,h⟩
 have k:=oB 2 h7 k
 rcases spl h with⟨h8,h⟩|⟨h8,h⟩
 have k:=oB 1 h8 k
 rcases spl h with⟨h9,h⟩|⟨h9,h⟩
 have k:=oB 1 h9 k
 rcases spl h with⟨h10,h⟩|⟨h10,h⟩
 obtain rfl:=sj h
 exact k229 (tF q229 0 [] (oB 1 h10 k))
 obtain⟨x11,h12,h⟩:=obind h
 obtain rfl:=sj h
 exact k229 (tF q229 2 [] (oA 1 (ix23 (o:=.no) h12)<|oB 1 h10 k))
 obtain rfl:=sj h
 exact k229 (tF q229 0 [] (oB 1 h9 k))
 obtain rfl:=sj h
 exact k229 (tF q229 0 [] (oB 1 h8 k))
 obtain rfl:=sj h
 exact k229 (tF q229 0 [] (oB 2 h7 k))
mutual
def e164:Nat->Tm->Option (Bool)
 |0,_=>none
 |qq+1,p0=>
 e229 qq p0>>=fun r1=>
 if r1 then
 e164Lac qq p0 0
 else
 some false
def e164Lac:Nat->Tm->Int->Option (Bool)
 |0,_,_=>none
 |qq+1,p0,v11=>
 if decide (v11<(List.length p0.sub:Int))then
 gidx p0.sub v11>>=fun x5=>
 e164 qq x5>>=fun r7=>
 if r7 then
 e164Lac qq p0 (w64 (v11+1))
 else
 some false
 else
 some true
end
def g164LacE0(j:Nat->Value)(p0:Tm)(v11:Int):=sp j 19 0 [(9,slv tmCells p0.sub .no),(10,ai (List.length p0.sub:Int)),(11,ai v11)]
def g164LacS0(p0:Tm)(v11:Int):LSt:=⟨[],0,[],0,[]⟩
abbrev K164 (p0:Tm) (r:Bool) (C:Cf):Prop:=C 164 [] [tmA p0] (ab r) [] 0
theorem q164:Qf 164 Tryz.f164:=⟨Tryz.func164,by kernel_rfl⟩
theorem k164{p0 r}(h:K164 p0 r Ci):K164 p0 r Ct:=⟨h,⟨⟨tv,tv,⟨tv,dT _⟩,tv⟩,tv⟩,forall_nil,tv,forall_nil⟩
theorem a164_164Lac:∀qq:Nat,(∀p0 r,e164 qq p0=some r->K164 p0 r Ct)∧(∀p0 v11 r,e164Lac qq p0 v11=some r->(∀j,Dl Tryz.prog 0 (inn (inn (rgt (lft (rgt (rgt (bod Tryz.f164))))))) (g164LacE0 j p0 v11) (g164LacS0 p0 v11) (frameQ Tryz.prog 0 (FinQ Tryz.prog 0 Tryz.f164 (ab r) [] 0) [.blk 0,.seq (rgt (rgt (rgt (bod Tryz.f164))))]))):=by
 intro qq
 induction qq with
 |zero=>
  exact⟨fun _ _ h=>nn h,fun _ _ _ h=>nn h⟩
 |succ qq ih=>
  obtain⟨ih164,ih164Lac⟩:=ih
  refine⟨?_,?_⟩
  intro p0 r h
  rw[e164]at h
  obtain⟨r1,h2,h⟩:=obind h
  rcases spl h with⟨h3,h⟩|⟨h3,h⟩
  exact k164 (tH q164 3 [] [] [] [9,10,11] (oD (dT p0.sub)<|oK 1 [] h3 (c229 h2) o0) (ih164Lac _ _ _ h))
  obtain rfl:=sj h
  exact k164 (tF q164 1 [] (oK 1 [] h3 (c229 h2) o0))
  intro p0 v11 r h
  rw[e164Lac]at h
  rcases spl h with⟨h4,h⟩|⟨h4,h⟩
  obtain⟨x5,h6,h⟩:=obind h
  obtain⟨r7,h8,h⟩:=obind h
  have k:=oA 0 (ix23 (o:=.no) h6)<|oB 0 h4 o0
  rcases spl h with⟨h9,h⟩|⟨h9,h⟩
  exact fun j=>lH 2 [] [] [] [9,10,11] (oD (dT p0.sub)<|oK 3 [] h9 (ih164 _ _ h8) k) (ih164Lac _ _ _ h)
  obtain rfl:=sj h
  exact fun j=>lF 1 [] (oK 3 [] h9 (ih164 _ _ h8) k)
  obtain rfl:=sj h
  exact fun j=>lF 0 [] (oB 0 h4 o0)
theorem c164{qq p0 r}(h:e164 qq p0=some r):K164 p0 r Ct:=(a164_164Lac _).1 _ _ h
def e89(qq:Nat)(p0:Tm):Option (Bool):=
 e163 qq p0>>=fun r1=>
 if decide (r1≤128)then
 e164 qq p0>>=fun r4=>
 some r4
 else
 some false
abbrev K89 (p0:Tm) (r:Bool) (C:Cf):Prop:=C 89 [] [tmA p0] (ab r) [] 0
theorem q89:Qf 89 Tryz.f89:=⟨Tryz.func89,by kernel_rfl⟩
theorem k89{p0 r}(h:K89 p0 r Ci):K89 p0 r Ct:=⟨h,⟨⟨tv,tv,⟨tv,dT _⟩,tv⟩,tv⟩,forall_nil,tv,forall_nil⟩
theorem c89{qq p0 r}(h:e89 qq p0=some r):K89 p0 r Ct:=by
 unfold e89 at h
 obtain⟨r1,h2,h⟩:=obind h
 have k:=oC 1 [] (c163 h2) o0
 rcases spl h with⟨h3,h⟩|⟨h3,h⟩
 obtain⟨r4,h5,h⟩:=obind h
 obtain rfl:=sj h
 exact k89 (tF q89 0 [] (oC 1 [] (c164 h5)<|oB 0 h3 k))
 obtain rfl:=sj h
 exact k89 (tF q89 0 [] (oB 0 h3 k))
mutual
theorem ev_size:∀(t:Tm) (h:Int),t.Ok->0≤h->h≤8192->Evt (fun q=>e289 q t h) (szT t h)
 | .mk k n l,h,ho,h0,h1=>by
  refine Evt.succ ?_
  simp only[e289]
  rw[w64_id (by omega) (by omega),szT]
  exact ev_sizeL l (.mk k n l) 0 (h+1) rfl ho.1 ho.2 (by omega) (by omega)
theorem ev_sizeL:∀(l:List Tm) (p:Tm) (v:Nat) (h:Int),p.sub.drop v=l->p.sub.length<9223372036854775808->OkL l->0≤h->h≤8193->Evt (fun q=>e289Laa q p h (v:Int)) (szL l h)
 | [],p,v,h,hd,hl,ho,h0,h1=>by
  refine Evt.succ ?_
  simp only[e289Laa]
  rw[szL]
  exact Evt.ifF (drop_nil hd) Evt.ret
 |t::l,p,v,h,hd,hl,ho,h0,h1=>by
  refine Evt.succ ?_
  simp only[e289Laa]
  refine Evt.ifT (drop_dec hd) (Evt.pure (drop_idx hd) ?_)
  rw[szL]
  by_cases h2:h>8192
  ·rw[if_pos h2];exact Evt.ifT (by simpa using h2) Evt.ret
  ·rw[if_neg h2]
   refine Evt.ifF (by simpa using h2) ((ev_size t h ho.1 h0 (by omega)).bind ?_)
   rw[w64_nat v (by have:=drop_lt hd;omega)]
   have:=szT_b t h h0 (by omega)
   exact ev_sizeL l p (v+1) (szT t h) (drop_next hd) hl ho.2 (by omega) (by omega)
end
theorem ev_Size(t:Tm)(ho:t.Ok):Evt (fun q=>e227 q t) (szT t 0):=by
 simp only[e227]
 exact(ev_size t 0 ho (by omega) (by omega)).bind Evt.ret
mutual
theorem ev_deep:∀(t:Tm) (a:Int),t.Ok->0≤a->a≤129->Evt (fun q=>e228 q t a) (dpT t a)
 | .mk k n l,a,ho,h0,h1=>by
  refine Evt.succ ?_
  simp only[e228]
  rw[dpT]
  by_cases h2:a>128
  ·rw[if_pos h2];exact Evt.ifT (by simpa using h2) Evt.ret
  ·rw[if_neg h2];exact Evt.ifF (by simpa using h2) (ev_deepL l (.mk k n l) 0 a a rfl ho.1 ho.2 h0 (by omega))
theorem ev_deepL:∀(l:List Tm) (p:Tm) (v:Nat) (a m:Int),p.sub.drop v=l->p.sub.length<9223372036854775808->OkL l->0≤a->a≤128->Evt (fun q=>e228Lab q p a (v:Int) m) (dpL l a m)
 | [],p,v,a,m,hd,hl,ho,h0,h1=>by
  refine Evt.succ ?_
  simp only[e228Lab]
  rw[dpL]
  exact Evt.ifF (drop_nil hd) Evt.ret
 |t::l,p,v,a,m,hd,hl,ho,h0,h1=>by
  refine Evt.succ ?_
  simp only[e228Lab]
  refine Evt.ifT (drop_dec hd) (Evt.pure (drop_idx hd) ?_)
  rw[dpL,w64_id (x:=a+1) (by omega) (by omega)]
  refine(ev_deep t (a+1) ho.1 (by omega) (by omega)).bind ?_
  rw[w64_nat v (by have:=drop_lt hd;omega)]
  exact ev_deepL l p (v+1) a _ (drop_next hd) hl ho.2 h0 h1
end
def depT(t:Tm):Int:=if szT t 0>8192 then 129 else dpT t 1
theorem ev_Depth(t:Tm)(ho:t.Ok):Evt (fun q=>e163 q t) (depT t):=by
 simp only[e163]
 refine(ev_Size t ho).bind ?_
 unfold depT
 by_cases h:szT t 0>8192
 ·rw[if_pos h];exact Evt.ifT (by simpa using h) Evt.ret
 ·rw[if_neg h];exact Evt.ifF (by simpa using h) ((ev_deep t 1 ho (by omega) (by omega)).bind Evt.ret)
theorem depT_le(t:Tm):depT t≤128↔t.nodes≤8192∧t.high≤128:=by
 have h1:=szT_eq t 0 (by omega) (by omega)
 have h2:=dpT_eq t 1 (by omega) (by omega)
 unfold depT
 by_cases h3:t.nodes≤8192
 ·rw[if_neg (by rw[h1.1 (by omega)];omega)]
  by_cases h4:t.high≤128
  ·rw[h2.1 (by omega)];omega
  ·rw[h2.2 (by omega)];omega
 ·rw[if_pos (by rw[h1.2 (by omega)];omega)];omega
theorem ev_head(t:Tm):Evt (fun q=>e229 q t) (headT t):=by
 refine Evt.mk fun q=>?_
 unfold e229 headT
 generalize t.k=k
 generalize t.n=n
 generalize t.sub=l
 by_cases h1:k<1
 ·rw[ifTe (decide_eq_true h1)];simp;omega
 ·by_cases h2:k>8
  ·rw[ifFe (decide_eq_false h1),ifTe (decide_eq_true h2)];simp;omega
  ·rw[ifFe (decide_eq_false h1),ifFe (decide_eq_false h2)]
   have:k=1∨k=2∨k=3∨k=4∨k=5∨k=6∨k=7∨k=8:=by omega
   rcases this with rfl|rfl|rfl|rfl|rfl|rfl|rfl|rfl
   case inr.inr.inr.inr.inr.inr.inl=>
    rcases l with _|⟨x,_|⟨y,l⟩⟩<;>simp[gidx]<;>grind
   case inr.inr.inl|inr.inr.inr.inl|inr.inr.inr.inr.inl=>
    by_cases hl:l.length=2
    ·simp[gidx,hl];grind
    ·have h':¬((l.length:Int)=2):=by omega
     simp[gidx,hl,h']
   all_goals (simp[gidx];grind)
mutual
theorem ev_good:∀(t:Tm),t.Ok->Evt (fun q=>e164 q t) (goodT t)
 | .mk k n l,ho=>by
  refine Evt.succ ?_
  simp only[e164]
  refine(ev_head (.mk k n l)).bind ?_
  rw[goodT]
  cases headT (.mk k n l)with
  |false=>exact Evt.ifF rfl Evt.ret
  |true=>exact Evt.ifT rfl (ev_goodL l (.mk k n l) 0 rfl ho.1 ho.2)
theorem ev_goodL:∀(l:List Tm) (p:Tm) (v:Nat),p.sub.drop v=l->p.sub.length<9223372036854775808->OkL l->Evt (fun q=>e164Lac q p (v:Int)) (goodL l)
 | [],p,v,hd,hl,ho=>by
  refine Evt.succ ?_
  simp only[e164Lac]
  rw[goodL]
  exact Evt.ifF (drop_nil hd) Evt.ret
 |t::l,p,v,hd,hl,ho=>by
  refine Evt.succ ?_
  simp only[e164Lac]
  refine Evt.ifT (drop_dec hd) (Evt.pure (drop_idx hd) ((ev_good t ho.1).bind ?_))
  rw[goodL]
  cases goodT t with
  |false=>exact Evt.ifF rfl Evt.ret
  |true=>
   refine Evt.ifT rfl ?_
   rw[w64_nat v (by have:=drop_lt hd;omega)]
   exact ev_goodL l p (v+1) (drop_next hd) hl ho.2
end
theorem ev_Shaped(t:Tm)(ho:t.Ok):Evt (fun q=>e89 q t) (shapedT t):=by
 simp only[e89]
 refine(ev_Depth t ho).bind ?_
 have h:=depT_le t
 unfold shapedT
 by_cases h1:depT t≤128
 ·refine Evt.ifT (by simpa using h1) (((ev_good t ho).bind Evt.ret).eq ?_)
  have:=h.1 h1
  simp[this.1,this.2]
 ·refine Evt.ifF (by simpa using h1) (Evt.ret.eq ?_)
  by_cases h2:t.nodes≤8192
  ·by_cases h3:t.high≤128
   ·exact absurd (h.2 ⟨h2,h3⟩) h1
   ·simp[h3]
  ·simp[h2]
def e235(qq:Nat)(p0:Tm)(p1:Int):Option (Int):=
 if p1==1 then
 if p0.k==3 then
 some 1
 else
 if p0.k==4 then
 some 1
 else
 some 0
 else
 some 0
abbrev K235 (p0:Tm) (p1 r:Int) (C:Cf):Prop:=C 235 [] [tmA p0,ai p1] (ai r) [] 0
theorem q235:Qf 235 Tryz.f235:=⟨Tryz.func235,by kernel_rfl⟩
theorem k235{p0 p1 r}(h:K235 p0 p1 r Ci):K235 p0 p1 r Ct:=⟨h,⟨⟨tv,tv,⟨tv,dT _⟩,tv⟩,tv,tv⟩,forall_nil,tv,forall_nil⟩
theorem c235{qq p0 p1 r}(h:e235 qq p0 p1=some r):K235 p0 p1 r Ct:=by
 unfold e235 at h
 rcases spl h with⟨h1,h⟩|⟨h1,h⟩
 have k:=oB 0 h1 o0
 rcases spl h with⟨h2,h⟩|⟨h2,h⟩
 obtain rfl:=sj h
 exact k235 (tF q235 0 [] (oB 1 h2 k))
 have k:=oB 1 h2 k
 rcases spl h with⟨h3,h⟩|⟨h3,h⟩
 obtain rfl:=sj h
 exact k235 (tF q235 0 [] (oB 1 h3 k))
 obtain rfl:=sj h
 exact k235 (tF q235 0 [] (oB 1 h3 k))
 obtain rfl:=sj h
 exact k235 (tF q235 0 [] (oB 0 h1 o0))
mutual
def e175:Nat->Tm->Int->Option (Int)
 |0,_,_=>none
 |qq+1,p0,p1=>
 if p0.k==1 then
 some (imax 0 (w64 ((w64 (p0.n+1))-p1)))
 else
 e175Lad qq p0 p1 0 0
def e175Lad:Nat->Tm->Int->Int->Int->Option (Int)
 |0,_,_,_,_=>none
 |qq+1,p0,p1,v20,v5=>
 if decide (v20<(List.length p0.sub:Int))then
 gidx p0.sub v20>>=fun x3=>
 e235 qq p0 v20>>=fun r5=>
 e175 qq x3 (w64 (p1+r5))>>=fun r7=>
 e175Lad qq p0 p1 (w64 (v20+1)) (imax v5 r7)
 else
 some v5
end
def g175LadE0(j:Nat->Value)(p0:Tm)(p1 v20 v5:Int):=sp j 36 0 [(1,ai p1),(2,.mp 0 0),(5,ai v5),(18,slv tmCells p0.sub .no),(19,ai (List.length p0.sub:Int)),(20,ai v20)]
def g175LadS0(p0:Tm)(p1 v20 v5:Int):LSt:=⟨[(0,.cells [ai p0.k,ai p0.n,slv tmCells p0.sub .no])],1,[],0,[]⟩
abbrev K175 (p0:Tm) (p1 r:Int) (C:Cf):Prop:=C 175 [] [tmA p0,ai p1] (ai r) [] 0
theorem q175:Qf 175 Tryz.f175:=⟨Tryz.func175,by kernel_rfl⟩
theorem k175{p0 p1 r}(h:K175 p0 p1 r Ci):K175 p0 p1 r Ct:=⟨h,⟨⟨tv,tv,⟨tv,dT _⟩,tv⟩,tv,tv⟩,forall_nil,tv,forall_nil⟩
theorem a175_175Lad:∀qq:Nat,(∀p0 p1 r,e175 qq p0 p1=some r->K175 p0 p1 r Ct)∧(∀p0 p1 v20 v5 r,e175Lad qq p0 p1 v20 v5=some r->(∀j,Dl Tryz.prog 0 (inn (inn (rgt (lft (rgt (rgt (rgt (bod Tryz.f175)))))))) (g175LadE0 j p0 p1 v20 v5) (g175LadS0 p0 p1 v20 v5) (frameQ Tryz.prog 0 (FinQ Tryz.prog 0 Tryz.f175 (ai r) [] 0) [.blk 0,.seq (rgt (rgt (rgt (rgt (bod Tryz.f175)))))]))):=by
 intro qq
 induction qq with
 |zero=>
  exact⟨fun _ _ _ h=>nn h,fun _ _ _ _ _ h=>nn h⟩
 |succ qq ih=>
  obtain⟨ih175,ih175Lad⟩:=ih
  refine⟨?_,?_⟩
  intro p0 p1 r h
  rw[e175]at h
  rcases spl h with⟨h1,h⟩|⟨h1,h⟩
  obtain rfl:=sj h
  exact k175 (tF q175 4 [] (oB 1 h1 o0))
  exact k175 (tH q175 2 [] [0] [] [1,2,5,18,19,20] (oD (dT p0.sub)<|oD (dT p0.sub)<|oB 1 h1 o0) (ih175Lad _ _ _ _ _ h))
  intro p0 p1 v20 v5 r h
  rw[e175Lad]at h
  rcases spl h with⟨h2,h⟩|⟨h2,h⟩
  obtain⟨x3,h4,h⟩:=obind h
  obtain⟨r5,h6,h⟩:=obind h
  obtain⟨r7,h8,h⟩:=obind h
  exact fun j=>lH 2 [] [0] [] [1,2,5,18,19,20] (oD (dT p0.sub)<|oD (dT p0.sub)<|oC 1 [] (ih175 _ _ _ h8)<|oC 4 [] (c235 h6)<|oA 0 (ix23 (o:=.no) h4)<|oB 0 h2 o0) (ih175Lad _ _ _ _ _ h)
  obtain rfl:=sj h
  exact fun j=>lF 0 [] (oB 0 h2 o0)
theorem c175{qq p0 p1 r}(h:e175 qq p0 p1=some r):K175 p0 p1 r Ct:=(a175_175Lad _).1 _ _ _ h
mutual
def e234:Nat->Tm->Int->Int->Option (List Int)
 |0,_,_,_=>none
 |qq+1,p0,p1,p2=>
 if p0.k==p1 then
 gapp 8 ([]:List Int) [p0.n]>>=fun l2=>
 e234Lae qq p0 p1 p2 0 l2
 else
 if p0.k==p2 then
 gapp 8 ([]:List Int) [p0.n]>>=fun l5=>
 e234Lae qq p0 p1 p2 0 l5
 else
 e234Lae qq p0 p1 p2 0 []
def e234Lae:Nat->Tm->Int->Int->Int->(List Int)->Option (List Int)
 |0,_,_,_,_,_=>none
 |qq+1,p0,p1,p2,v28,v7=>
 if decide (v28<(List.length p0.sub:Int))then
 gidx p0.sub v28>>=fun x5=>
 e234 qq x5 p1 p2>>=fun r7=>
 gapp 8 v7 r7>>=fun l9=>
 e234Lae qq p0 p1 p2 (w64 (v28+1)) l9
 else
 some v7
end
def g234LaeE0(j:Nat->Value)(p0:Tm)(p1 p2 v28:Int)(v7:List Int):=sp j 40 0 [(1,ai p1),(2,ai p2),(7,slv intC v7 (.st 0 1)),(26,slv tmCells p0.sub .no),(27,ai (List.length p0.sub:Int)),(28,ai v28)]
def g234LaeS0(p0:Tm)(p1 p2 v28:Int)(v7:List Int):LSt:=⟨[],0,[0],1,[]⟩
def g234LaeE1(j:Nat->Value)(p0:Tm)(p1 p2 v28:Int)(v7:List Int):=sp j 40 0 [(1,ai p1),(2,ai p2),(7,slv intC v7 .nl),(26,slv tmCells p0.sub .no),(27,ai (List.length p0.sub:Int)),(28,ai v28)]
def g234LaeS1(p0:Tm)(p1 p2 v28:Int)(v7:List Int):LSt:=⟨[],0,[],0,[]⟩
abbrev K234 (p0:Tm) (p1 p2:Int) (r:List Int) (C:Cf):Prop:=C 234 [] [tmA p0,ai p1,ai p2] (slv intC r (.st 0 1)) [] 1
theorem q234:Qf 234 Tryz.f234:=⟨Tryz.func234,by kernel_rfl⟩
theorem k234{p0 p1 p2 r}(h:K234 p0 p1 p2 r Ci):K234 p0 p1 p2 r Ct:=⟨h,⟨⟨tv,tv,⟨tv,dT _⟩,tv⟩,tv,tv,tv⟩,forall_nil,dI _,forall_nil⟩
theorem a234_234Lae:∀qq:Nat,(∀p0 p1 p2 r,e234 qq p0 p1 p2=some r->K234 p0 p1 p2 r Ct)∧(∀p0 p1 p2 v28 v7 r,e234Lae qq p0 p1 p2 v28 v7=some r->(∀j,Dl Tryz.prog 0 (inn (inn (rgt (lft (rgt (rgt (rgt (bod Tryz.f234)))))))) (g234LaeE0 j p0 p1 p2 v28 v7) (g234LaeS0 p0 p1 p2 v28 v7) (frameQ Tryz.prog 0 (FinQ Tryz.prog 0 Tryz.f234 (slv intC r (.st 0 1)) [] 1) [.blk 0,.seq (rgt (rgt (rgt (rgt (bod Tryz.f234)))))]))∧(∀j,Dl Tryz.prog 0 (inn (inn (rgt (lft (rgt (rgt (rgt (bod Tryz.f234)))))))) (g234LaeE1 j p0 p1 p2 v28 v7) (g234LaeS1 p0 p1 p2 v28 v7) (frameQ Tryz.prog 0 (FinQ Tryz.prog 0 Tryz.f234 (slv intC r (.st 0 1)) [] 1) [.blk 0,.seq (rgt (rgt (rgt (rgt (bod Tryz.f234)))))]))):=by
 intro qq
 induction qq with
 |zero=>
  exact⟨fun _ _ _ _ h=>nn h,fun _ _ _ _ _ _ h=>nn h⟩
 |succ qq ih=>
  obtain⟨ih234,ih234Lae⟩:=ih
  refine⟨?_,?_⟩
  intro p0 p1 p2 r h
  rw[e234]at h
  rcases spl h with⟨h1,h⟩|⟨h1,h⟩
  obtain⟨l2,h3,h⟩:=obind h
  exact k234 (tH q234 2 [] [] [0] [1,2,7,26,27,28] (oD (dT p0.sub)<|oD (dI l2)<|oP 2 (apS41 h3 (by simp))<|oB 1 h1 o0) ((ih234Lae _ _ _ _ _ _ h).1))
  have k:=oB 1 h1 o0
  rcases spl h with⟨h4,h⟩|⟨h4,h⟩
  obtain⟨l5,h6,h⟩:=obind h
  exact k234 (tH q234 2 [] [] [0] [1,2,7,26,27,28] (oD (dT p0.sub)<|oD (dI l5)<|oP 2 (apS41 h6 (by simp))<|oB 1 h4 k) ((ih234Lae _ _ _ _ _ _ h).1))
  exact k234 (tH q234 2 [] [] [] [1,2,7,26,27,28] (oD (dT p0.sub)<|oD (dI ([]:List Int))<|oB 1 h4 k) ((ih234Lae _ _ _ _ _ _ h).2))
  intro p0 p1 p2 v28 v7 r h
  rw[e234Lae]at h
  refine⟨?_,?_⟩
  rcases spl h with⟨h4,h⟩|⟨h4,h⟩
  obtain⟨x5,h6,h⟩:=obind h
  obtain⟨r7,h8,h⟩:=obind h
  obtain⟨l9,h10,h⟩:=obind h
  have k:=oC 3 [] (ih234 _ _ _ _ h8)<|oA 0 (ix23 (o:=.no) h6)<|oB 0 h4 o0
  by_cases h11:List.length r7=0
  exact fun j=>lH 1 [] [] [0] [1,2,7,26,27,28] (oD (dT p0.sub)<|oD (dI l9)<|oP 0 (apN41 h10 h11) k) ((ih234Lae _ _ _ _ _ _ h).1)
  exact fun j=>lH 1 [] [] [2] [1,2,7,26,27,28] (oD (dT p0.sub)<|oD (dI l9)<|oP 0 (apS41 h10 h11) k) ((ih234Lae _ _ _ _ _ _ h).1)
  obtain rfl:=sj h
  exact fun j=>lG 0 [] [] [0] true (oD (dI v7)<|oB 0 h4 o0)
  rcases spl h with⟨h4,h⟩|⟨h4,h⟩
  obtain⟨x5,h6,h⟩:=obind h
  obtain⟨r7,h8,h⟩:=obind h
  obtain⟨l9,h10,h⟩:=obind h
  have k:=oC 3 [] (ih234 _ _ _ _ h8)<|oA 0 (ix23 (o:=.no) h6)<|oB 0 h4 o0
  by_cases h11:List.length r7=0
  exact fun j=>lH 1 [] [] [] [1,2,7,26,27,28] (oD (dT p0.sub)<|oD (dI l9)<|oP 0 (apN41 h10 h11) k) ((ih234Lae _ _ _ _ _ _ h).2)
  exact fun j=>lH 1 [] [] [1] [1,2,7,26,27,28] (oD (dT p0.sub)<|oD (dI l9)<|oP 0 (apS41 h10 h11) k) ((ih234Lae _ _ _ _ _ _ h).1)
  obtain rfl:=sj h
  exact fun j=>lG 0 [(none,6,1)] [] [0] true (oD (dI v7)<|oB 0 h4 o0)
theorem c234{qq p0 p1 p2 r}(h:e234 qq p0 p1 p2=some r):K234 p0 p1 p2 r Ct:=(a234_234Lae _).1 _ _ _ _ h
def e176(qq:Nat)(p0:Tm):Option (List Int):=
 (e89 qq p0)>>=fun r1=>
 if r1=true then
  (e234 qq p0 6 7)>>=fun r4=>
  if decide (List.length r4<4611686018427387904)=true then some (rise r4)else none
 else
  some []
theorem c176{qq:Nat}{p0:Tm}{r:List Int}(h:e176 qq p0=some r):CT Tryz.prog 176 [] [tmA p0] (.sl (flat intC r) (List.length r) .no) [] 0:=by
 unfold e176 at h
 obtain⟨r1,h2,h⟩:=obind h
 rcases bcases r1 with h3|h3
 ·replace h:=ifT h3 h
  obtain⟨l,h5,h⟩:=obind h
  rcases bcases (decide (List.length l<4611686018427387904))with h6|h6
  ·replace h:=ifT h6 h
   replace h:=Option.some.inj h
   subst h
   subst h3
   have hsz:List.length l<4611686018427387904:=by simpa using h6
   refine⟨?_,⟨⟨trivial,trivial,⟨trivial,dT _⟩,trivial⟩,trivial⟩,(fun _ h=>nomatch h),dI _,(fun _ h=>nomatch h)⟩
   have k0:knd (bod Tryz.f176)=1:=by kernel_rfl
   have k1:knd (rgt (bod Tryz.f176))=1:=by kernel_rfl
   have k2:knd (rgt (rgt (bod Tryz.f176)))=1:=by kernel_rfl
   have k3:isReg (lft (rgt (rgt (bod Tryz.f176))))=true:=by kernel_rfl
   have k4:clOf (regOps (lft (rgt (rgt (bod Tryz.f176)))))[2]? = some (some 8,233,#[.tmp 7]):=by kernel_rfl
   have k5:(Tryz.f233.name == "runtime.NumGoroutine")=false:=by kernel_rfl
   have k6:Tryz.f233.body.isNone=false:=by kernel_rfl
   have x1:krun Tryz.prog prim 3000 (.run (lft (bod Tryz.f176))) [] ([tmA p0]++List.replicate (Tryz.f176.ntmps-1) (.val undef)) (st0 []) []=some (.fin .normal,[tmA p0,.mp 0 0,.sl [] 0 .nl,.val undef,.val undef,.val undef,.val undef,.val undef,.val undef],⟨[(0,.cells (tmL p0))],1,[],0,[]⟩,[],[]):=by kernel_rfl
   have x2:krun Tryz.prog prim 3000 (.run (lft (rgt (bod Tryz.f176)))) [] [tmA p0,.mp 0 0,.sl [] 0 .nl,.val undef,.val undef,.val undef,.val undef,.val undef,.val undef] ⟨[(0,.cells (tmL p0))],1,[],0,[]⟩ [.no,.call [] [] 0 (ab true) (some true),.no]=some (.fin .normal,[tmA p0,.mp 0 0,.sl [] 0 .nl,tmA p0,ab true,ab false,.val undef,.val undef,.val undef],⟨[(0,.cells (tmL p0))],1,[],0,[]⟩,[],[.bit true true,.call 89 [] [tmA p0] (ab true) [] 0]):=by kernel_rfl
   have x3:(xops Tryz.prog prim (regOps (lft (rgt (rgt (bod Tryz.f176))))) ((regOps (lft (rgt (rgt (bod Tryz.f176))))).toList.take 2) 0 [tmA p0,.mp 0 0,.sl [] 0 .nl,tmA p0,ab true,ab false,.val undef,.val undef,.val undef] ⟨[(0,.cells (tmL p0))],1,[],0,[]⟩ [.no,.call [] [] 1 (.sl (flat intC l) l.length (.st 0 1)) none]).map Prod.snd=some ([tmA p0,.mp 0 0,.sl [] 0 .nl,tmA p0,ab true,ab false,tmA p0,.sl (flat intC l) l.length (.st 0 1),.val undef],⟨[(0,.cells (tmL p0))],1,[0],1,[]⟩,[],[.call 234 [] [tmA p0,ai 6,ai 7] (.sl (flat intC l) l.length (.st 0 1)) [] 1]):=by kernel_rfl
   have x4:∀j:Nat->Value,(xops Tryz.prog prim (regOps (lft (rgt (rgt (bod Tryz.f176))))) ((regOps (lft (rgt (rgt (bod Tryz.f176))))).toList.drop 3) 3 (eset (tells [] (mutEnv [] j [tmA p0,.mp 0 0,.sl [] 0 .nl,tmA p0,ab true,ab false,tmA p0,.sl (flat intC l) l.length (.st 0 1),.val undef] 0)) (some 8) (.sl (flat intC (rise l)) (rise l).length .no)) (pickSt [] ⟨[(0,.cells (tmL p0))],1,[0],1,[]⟩) []).map Prod.snd=some ([.val (j 0),.val (j 1),.sl (flat intC (rise l)) (rise l).length .no,.val (j 3),ab true,ab false,.val (j 6),.val (j 7),.sl (flat intC (rise l)) (rise l).length .no],⟨[],1,[],0,[]⟩,[],[]):=fun j=>by kernel_rfl
   have x5:∀j:Nat->Value,kfin Tryz.prog prim 0 Tryz.f176 3000 (.run (rgt (rgt (rgt (bod Tryz.f176))))) [] [.val (j 0),.val (j 1),.sl (flat intC (rise l)) (rise l).length .no,.val (j 3),ab true,ab false,.val (j 6),.val (j 7),.sl (flat intC (rise l)) (rise l).length .no] ⟨[],1,[],0,[]⟩ [] [] [] [] false=some (.sl (flat intC (rise l)) (rise l).length .no,[],[.data (flat intC (rise l))]):=fun j=>by kernel_rfl
   refine CTri.body Tryz.func176 (by kernel_rfl) ?_
   refine Dv.seqP k0 ?_
   refine krun_ok (Q:=_) prim_ok mixed 3000 (.run (lft (bod Tryz.f176))) [] _ _ _ _ _ _ _ _ x1 ObsOk.nil ?_
   refine Dv.seqP k1 ?_
   refine krun_ok (Q:=_) prim_ok mixed 3000 (.run (lft (rgt (bod Tryz.f176)))) [] _ _ _ _ _ _ _ _ x2 (ObsOk.cons (obBit rfl) (ObsOk.cons (obCall (c89 h2)) ObsOk.nil)) ?_
   refine Dv.seqP k2 ?_
   obtain⟨id,k7⟩:=regP k3
   rw[k7]
   refine Dv.mut prim_ok (na:=(0:Nat)) rfl 2 [] [] _ x3 (ObsOk.cons (obCall (c234 h5)) ObsOk.nil) k4 Tryz.func233 k5 k6 (fun i X h=>by cases h) ?_ x4 ObsOk.nil ?_
   ·intro G0 W hB G w hE hR u hu
    refine(rise_call hR (by rfl) hsz hu).mono ?_
    rintro e w' ⟨v,b,S,z1,z2,z3,z4,z5,z6⟩
    exact⟨v,b,S,z1,z2,z3,z4,z5,fun G' _ _ hS=>⟨z6 G' hS,fun q hq=>by cases hq⟩⟩
   ·intro j
    exact kfin_ok (na:=(0:Nat)) prim_ok mixed (x5 j) (ObsOk.cons (obData (dI _)) ObsOk.nil) (by decide)
  ·replace h:=ifF h6 h
   cases h
 ·replace h:=ifF h3 h
  replace h:=Option.some.inj h
  subst h
  exact⟨CTri.toFin prim_ok mixed Tryz.func176 (by kernel_rfl) 3000 [.no,.call [] [] 0 (ab r1) (some false),.no] [] [] [] false (by kernel_rfl) (ObsOk.cons (obBit h3) (ObsOk.cons (obCall (c89 h2)) (ObsOk.cons (obData (dI ([]:List Int))) ObsOk.nil))) (by decide),⟨⟨trivial,trivial,⟨trivial,dT _⟩,trivial⟩,trivial⟩,(fun _ h=>nomatch h),dI _,(fun _ h=>nomatch h)⟩
def e107(qq:Nat)(p0:Tm)(p1 p2:Int):Option (Bool):=
 e89 qq p0>>=fun r1=>
 if r1 then
 e175 qq p0 0>>=fun r4=>
 if decide (r4>p1)then
 some false
 else
 e176 qq p0>>=fun r7=>
 if (List.length r7:Int)==0 then
 some true
 else
 gidx r7 (w64 ((List.length r7:Int)-1))>>=fun x10=>
 some (decide (x10<p2))
 else
 some false
abbrev K107 (p0:Tm) (p1 p2:Int) (r:Bool) (C:Cf):Prop:=C 107 [] [tmA p0,ai p1,ai p2] (ab r) [] 0
theorem q107:Qf 107 Tryz.f107:=⟨Tryz.func107,by kernel_rfl⟩
theorem k107{p0 p1 p2 r}(h:K107 p0 p1 p2 r Ci):K107 p0 p1 p2 r Ct:=⟨h,⟨⟨tv,tv,⟨tv,dT _⟩,tv⟩,tv,tv,tv⟩,forall_nil,tv,forall_nil⟩
theorem c107{qq p0 p1 p2 r}(h:e107 qq p0 p1 p2=some r):K107 p0 p1 p2 r Ct:=by
 unfold e107 at h
 obtain⟨r1,h2,h⟩:=obind h
 rcases spl h with⟨h3,h⟩|⟨h3,h⟩
 obtain⟨r4,h5,h⟩:=obind h
 have k:=oC 2 [] (c175 h5)<|oK 1 [] h3 (c89 h2) o0
 rcases spl h with⟨h6,h⟩|⟨h6,h⟩
 obtain rfl:=sj h
 exact k107 (tF q107 0 [] (oB 0 h6 k))
 obtain⟨r7,h8,h⟩:=obind h
 have k:=oC 1 [] (c176 h8)<|oB 0 h6 k
 rcases spl h with⟨h9,h⟩|⟨h9,h⟩
 obtain rfl:=sj h
 exact k107 (tF q107 0 [] (oB 1 h9 k))
 obtain⟨x10,h11,h⟩:=obind h
 obtain rfl:=sj h
 exact k107 (tF q107 2 [] (oA 2 (ix41 (o:=.no) h11)<|oB 1 h9 k))
 obtain rfl:=sj h
 exact k107 (tF q107 1 [] (oK 1 [] h3 (c89 h2) o0))
def e174(qq:Nat)(p0:Tm):Option (List Int):=
 (e89 qq p0)>>=fun r1=>
 if r1=true then
  (e234 qq p0 8 8)>>=fun r4=>
  if decide (List.length r4<4611686018427387904)=true then some (rise r4)else none
 else
  some []
theorem c174{qq:Nat}{p0:Tm}{r:List Int}(h:e174 qq p0=some r):CT Tryz.prog 174 [] [tmA p0] (.sl (flat intC r) (List.length r) .no) [] 0:=by
 unfold e174 at h
 obtain⟨r1,h2,h⟩:=obind h
 rcases bcases r1 with h3|h3
 ·replace h:=ifT h3 h
  obtain⟨l,h5,h⟩:=obind h
  rcases bcases (decide (List.length l<4611686018427387904))with h6|h6
  ·replace h:=ifT h6 h
   replace h:=Option.some.inj h
   subst h
   subst h3
   have hsz:List.length l<4611686018427387904:=by simpa using h6
   refine⟨?_,⟨⟨trivial,trivial,⟨trivial,dT _⟩,trivial⟩,trivial⟩,(fun _ h=>nomatch h),dI _,(fun _ h=>nomatch h)⟩
   have k0:knd (bod Tryz.f174)=1:=by kernel_rfl
   have k1:knd (rgt (bod Tryz.f174))=1:=by kernel_rfl
   have k2:knd (rgt (rgt (bod Tryz.f174)))=1:=by kernel_rfl
   have k3:isReg (lft (rgt (rgt (bod Tryz.f174))))=true:=by kernel_rfl
   have k4:clOf (regOps (lft (rgt (rgt (bod Tryz.f174)))))[2]? = some (some 8,233,#[.tmp 7]):=by kernel_rfl
   have k5:(Tryz.f233.name == "runtime.NumGoroutine")=false:=by kernel_rfl
   have k6:Tryz.f233.body.isNone=false:=by kernel_rfl
   have x1:krun Tryz.prog prim 3000 (.run (lft (bod Tryz.f174))) [] ([tmA p0]++List.replicate (Tryz.f174.ntmps-1) (.val undef)) (st0 []) []=some (.fin .normal,[tmA p0,.mp 0 0,.sl [] 0 .nl,.val undef,.val undef,.val undef,.val undef,.val undef,.val undef],⟨[(0,.cells (tmL p0))],1,[],0,[]⟩,[],[]):=by kernel_rfl
   have x2:krun Tryz.prog prim 3000 (.run (lft (rgt (bod Tryz.f174)))) [] [tmA p0,.mp 0 0,.sl [] 0 .nl,.val undef,.val undef,.val undef,.val undef,.val undef,.val undef] ⟨[(0,.cells (tmL p0))],1,[],0,[]⟩ [.no,.call [] [] 0 (ab true) (some true),.no]=some (.fin .normal,[tmA p0,.mp 0 0,.sl [] 0 .nl,tmA p0,ab true,ab false,.val undef,.val undef,.val undef],⟨[(0,.cells (tmL p0))],1,[],0,[]⟩,[],[.bit true true,.call 89 [] [tmA p0] (ab true) [] 0]):=by kernel_rfl
   have x3:(xops Tryz.prog prim (regOps (lft (rgt (rgt (bod Tryz.f174))))) ((regOps (lft (rgt (rgt (bod Tryz.f174))))).toList.take 2) 0 [tmA p0,.mp 0 0,.sl [] 0 .nl,tmA p0,ab true,ab false,.val undef,.val undef,.val undef] ⟨[(0,.cells (tmL p0))],1,[],0,[]⟩ [.no,.call [] [] 1 (.sl (flat intC l) l.length (.st 0 1)) none]).map Prod.snd=some ([tmA p0,.mp 0 0,.sl [] 0 .nl,tmA p0,ab true,ab false,tmA p0,.sl (flat intC l) l.length (.st 0 1),.val undef],⟨[(0,.cells (tmL p0))],1,[0],1,[]⟩,[],[.call 234 [] [tmA p0,ai 8,ai 8] (.sl (flat intC l) l.length (.st 0 1)) [] 1]):=by kernel_rfl
   have x4:∀j:Nat->Value,(xops Tryz.prog prim (regOps (lft (rgt (rgt (bod Tryz.f174))))) ((regOps (lft (rgt (rgt (bod Tryz.f174))))).toList.drop 3) 3 (eset (tells [] (mutEnv [] j [tmA p0,.mp 0 0,.sl [] 0 .nl,tmA p0,ab true,ab false,tmA p0,.sl (flat intC l) l.length (.st 0 1),.val undef] 0)) (some 8) (.sl (flat intC (rise l)) (rise l).length .no)) (pickSt [] ⟨[(0,.cells (tmL p0))],1,[0],1,[]⟩) []).map Prod.snd=some ([.val (j 0),.val (j 1),.sl (flat intC (rise l)) (rise l).length .no,.val (j 3),ab true,ab false,.val (j 6),.val (j 7),.sl (flat intC (rise l)) (rise l).length .no],⟨[],1,[],0,[]⟩,[],[]):=fun j=>by kernel_rfl
   have x5:∀j:Nat->Value,kfin Tryz.prog prim 0 Tryz.f174 3000 (.run (rgt (rgt (rgt (bod Tryz.f174))))) [] [.val (j 0),.val (j 1),.sl (flat intC (rise l)) (rise l).length .no,.val (j 3),ab true,ab false,.val (j 6),.val (j 7),.sl (flat intC (rise l)) (rise l).length .no] ⟨[],1,[],0,[]⟩ [] [] [] [] false=some (.sl (flat intC (rise l)) (rise l).length .no,[],[.data (flat intC (rise l))]):=fun j=>by kernel_rfl
   refine CTri.body Tryz.func174 (by kernel_rfl) ?_
   refine Dv.seqP k0 ?_
   refine krun_ok (Q:=_) prim_ok mixed 3000 (.run (lft (bod Tryz.f174))) [] _ _ _ _ _ _ _ _ x1 ObsOk.nil ?_
   refine Dv.seqP k1 ?_
   refine krun_ok (Q:=_) prim_ok mixed 3000 (.run (lft (rgt (bod Tryz.f174)))) [] _ _ _ _ _ _ _ _ x2 (ObsOk.cons (obBit rfl) (ObsOk.cons (obCall (c89 h2)) ObsOk.nil)) ?_
   refine Dv.seqP k2 ?_
   obtain⟨id,k7⟩:=regP k3
   rw[k7]
   refine Dv.mut prim_ok (na:=(0:Nat)) rfl 2 [] [] _ x3 (ObsOk.cons (obCall (c234 h5)) ObsOk.nil) k4 Tryz.func233 k5 k6 (fun i X h=>by cases h) ?_ x4 ObsOk.nil ?_
   ·intro G0 W hB G w hE hR u hu
    refine(rise_call hR (by rfl) hsz hu).mono ?_
    rintro e w' ⟨v,b,S,z1,z2,z3,z4,z5,z6⟩
    exact⟨v,b,S,z1,z2,z3,z4,z5,fun G' _ _ hS=>⟨z6 G' hS,fun q hq=>by cases hq⟩⟩
   ·intro j
    exact kfin_ok (na:=(0:Nat)) prim_ok mixed (x5 j) (ObsOk.cons (obData (dI _)) ObsOk.nil) (by decide)
  ·replace h:=ifF h6 h
   cases h
 ·replace h:=ifF h3 h
  replace h:=Option.some.inj h
  subst h
  exact⟨CTri.toFin prim_ok mixed Tryz.func174 (by kernel_rfl) 3000 [.no,.call [] [] 0 (ab r1) (some false),.no] [] [] [] false (by kernel_rfl) (ObsOk.cons (obBit h3) (ObsOk.cons (obCall (c89 h2)) (ObsOk.cons (obData (dI ([]:List Int))) ObsOk.nil))) (by decide),⟨⟨trivial,trivial,⟨trivial,dT _⟩,trivial⟩,trivial⟩,(fun _ h=>nomatch h),dI _,(fun _ h=>nomatch h)⟩
theorem imax_eq(a b:Int):imax a b=max a b:=by unfold imax;split<;>omega
theorem goodT_mk{k n:Int}{l:List Tm}(h:goodT (.mk k n l)=true):headT (.mk k n l)=true∧goodL l=true:=by
 rw[goodT]at h;simpa using h
theorem goodL_cons{t:Tm}{l:List Tm}(h:goodL (t::l)=true):goodT t=true∧goodL l=true:=by
 rw[goodL]at h;simpa using h
theorem head_n{k n:Int}{l:List Tm}(h:headT (.mk k n l)=true):0≤n∧n≤1048576∧1≤k∧k≤8∧l.length≤2:=by
 have:=head_spec h
 exact⟨this.2.2.1,this.2.2.2.1,this.1,this.2.1,this.2.2.2.2.1⟩
mutual
theorem good_ok:∀t:Tm,goodT t=true->t.Ok
 | .mk k n l,h=>by
  have h1:=goodT_mk h
  rw[Tm.Ok]
  exact⟨by have:=(head_n h1.1).2.2.2.2;omega,good_okL l h1.2⟩
theorem good_okL:∀l:List Tm,goodL l=true->OkL l
 | [],_=>by rw[OkL];trivial
 |t::l,h=>by
  have:=goodL_cons h
  rw[OkL]
  exact⟨good_ok t this.1,good_okL l this.2⟩
end
mutual
theorem looT_nn:∀(t:Tm) (b:Int),0≤looT t b
 | .mk k n l,b=>by
  rw[looT];split
  ·omega
  ·exact looL_nn l k 0 b
theorem looL_nn:∀(l:List Tm) (k:Int) (i:Nat) (b:Int),0≤looL l k i b
 | [],k,i,b=>by rw[looL];omega
 |t::l,k,i,b=>by rw[looL];have:=looT_nn t (b+undT k i);omega
end
theorem ev_under(t:Tm)(i:Nat):Evt (fun q=>e235 q t (i:Int)) (undT t.k i):=by
 refine Evt.mk fun q=>?_
 simp only[e235,undT]
 by_cases h1:i=1
 ·subst h1;simp;by_cases h3:t.k=3<;>by_cases h4:t.k=4<;>simp[h3,h4]
 ·have:¬((i:Int)=1):=by omega
  simp[h1,this]
theorem undT_01(k:Int)(i:Nat):0≤undT k i∧undT k i≤1:=by unfold undT;split<;>omega
mutual
theorem ev_loose:∀(t:Tm) (b:Int),goodT t=true->0≤b->b+t.high≤4611686018427387904->Evt (fun q=>e175 q t b) (looT t b)
 | .mk k n l,b,hg,h0,h1=>by
  refine Evt.succ ?_
  simp only[e175,Tm.k,Tm.n]
  have hh:=goodT_mk hg
  have hn:=head_n hh.1
  rw[looT]
  by_cases hk:k=1
  ·rw[if_pos hk]
   rw[Tm.high]at h1
   refine Evt.ifT (by simpa using hk) (Evt.ret.eq ?_)
   rw[w64_id (x:=n+1) (by omega) (by omega),w64_id (by omega) (by omega),imax_eq]
  ·rw[if_neg hk]
   refine Evt.ifF (by simpa using hk) ?_
   rw[Tm.high]at h1
   exact(ev_looseL l (.mk k n l) 0 b 0 rfl (by have:=hn.2.2.2.2;simp only[Tm.sub];omega) hh.2 h0 (by omega) (by omega)).eq (by have:=looL_nn l k 0 b;simp only[Tm.k];omega)
theorem ev_looseL:∀(l:List Tm) (p:Tm) (v:Nat) (b m:Int),p.sub.drop v=l->p.sub.length<9223372036854775808->goodL l=true->0≤b->0≤m->b+1+highL l≤4611686018427387904->Evt (fun q=>e175Lad q p b (v:Int) m) (max m (looL l p.k v b))
 | [],p,v,b,m,hd,hl,ho,h0,hm,h1=>by
  refine Evt.succ ?_
  simp only[e175Lad]
  rw[looL]
  exact Evt.ifF (drop_nil hd) (Evt.ret.eq (by omega))
 |t::l,p,v,b,m,hd,hl,ho,h0,hm,h1=>by
  refine Evt.succ ?_
  simp only[e175Lad]
  have hg:=goodL_cons ho
  have hu:=undT_01 p.k v
  rw[highL]at h1
  refine Evt.ifT (drop_dec hd) (Evt.pure (drop_idx hd) ((ev_under p v).bind ?_))
  rw[w64_id (x:=b+undT p.k v) (by omega) (by omega)]
  refine(ev_loose t (b+undT p.k v) hg.1 (by omega) (by omega)).bind ?_
  rw[w64_nat v (by have:=drop_lt hd;omega),imax_eq]
  refine(ev_looseL l p (v+1) b _ (drop_next hd) hl hg.2 h0 (by omega) (by omega)).eq ?_
  rw[looL];omega
end
mutual
theorem col_len:∀(t:Tm) (a b:Int),(colT t a b).length≤t.nodes
 | .mk k n l,a,b=>by
  rw[colT,Tm.nodes]
  have:=col_lenL l a b
  split<;>simp<;>omega
theorem col_lenL:∀(l:List Tm) (a b:Int),(colL l a b).length≤nodesL l
 | [],a,b=>by rw[colL,nodesL];simp
 |t::l,a,b=>by
  rw[colL,nodesL]
  have:=col_len t a b
  have:=col_lenL l a b
  simp;omega
end
mutual
theorem ev_collect:∀(t:Tm) (a b:Int),t.Ok->t.nodes≤8192->Evt (fun q=>e234 q t a b) (colT t a b)
 | .mk k n l,a,b,ho,hn=>by
  refine Evt.succ ?_
  simp only[e234,Tm.k,Tm.n]
  rw[colT]
  rw[Tm.nodes]at hn
  by_cases ha:k=a
  ·refine Evt.ifT (by simpa using ha) (Evt.pure (gapp_ok (by simp)) ?_)
   rw[if_pos (.inl ha)]
   exact ev_collectL l (.mk k n l) 0 a b [n] rfl ho.1 ho.2 (by simp;omega)
  ·refine Evt.ifF (by simpa using ha) ?_
   by_cases hb:k=b
   ·refine Evt.ifT (by simpa using hb) (Evt.pure (gapp_ok (by simp)) ?_)
    rw[if_pos (.inr hb)]
    exact ev_collectL l (.mk k n l) 0 a b [n] rfl ho.1 ho.2 (by simp;omega)
   ·refine Evt.ifF (by simpa using hb) ?_
    rw[if_neg (by simp[ha,hb])]
    exact ev_collectL l (.mk k n l) 0 a b [] rfl ho.1 ho.2 (by simp;omega)
theorem ev_collectL:∀(l:List Tm) (p:Tm) (v:Nat) (a b:Int) (m:List Int),p.sub.drop v=l->p.sub.length<9223372036854775808->OkL l->m.length+nodesL l≤8192->Evt (fun q=>e234Lae q p a b (v:Int) m) (m++colL l a b)
 | [],p,v,a,b,m,hd,hl,ho,hn=>by
  refine Evt.succ ?_
  simp only[e234Lae]
  rw[colL]
  exact Evt.ifF (drop_nil hd) (Evt.ret.eq (by simp))
 |t::l,p,v,a,b,m,hd,hl,ho,hn=>by
  refine Evt.succ ?_
  simp only[e234Lae]
  rw[nodesL]at hn
  have hc:=col_len t a b
  refine Evt.ifT (drop_dec hd) (Evt.pure (drop_idx hd) ((ev_collect t a b ho.1 (by omega)).bind (Evt.pure (gapp_ok (by omega)) ?_)))
  rw[w64_nat v (by have:=drop_lt hd;omega)]
  refine(ev_collectL l p (v+1) a b _ (drop_next hd) hl ho.2 (by simp;omega)).eq ?_
  rw[colL];simp
end
theorem shapedT_spec{t:Tm}(h:shapedT t=true):t.nodes≤8192∧t.high≤128∧goodT t=true:=by
 unfold shapedT at h;simp at h;exact⟨h.1.1,h.1.2,h.2⟩
def numsT(t:Tm)(a b:Int):List Int:=if shapedT t=true then rise (colT t a b)else []
theorem ev_Frees(t:Tm)(ho:t.Ok):Evt (fun q=>e174 q t) (numsT t 8 8):=by
 simp only[e174]
 refine(ev_Shaped t ho).bind ?_
 unfold numsT
 by_cases h:shapedT t=true
 ·have hs:=shapedT_spec h
  have:=col_len t 8 8
  rw[if_pos h]
  refine Evt.ifT h ((ev_collect t 8 8 ho hs.1).bind (Evt.mk fun q=>?_))
  rw[if_pos (by simp;omega)]
 ·rw[if_neg h];exact Evt.ifF (by simpa using h) Evt.ret
theorem ev_Entries(t:Tm)(ho:t.Ok):Evt (fun q=>e176 q t) (numsT t 6 7):=by
 simp only[e176]
 refine(ev_Shaped t ho).bind ?_
 unfold numsT
 by_cases h:shapedT t=true
 ·have hs:=shapedT_spec h
  have:=col_len t 6 7
  rw[if_pos h]
  refine Evt.ifT h ((ev_collect t 6 7 ho hs.1).bind (Evt.mk fun q=>?_))
  rw[if_pos (by simp;omega)]
 ·rw[if_neg h];exact Evt.ifF (by simpa using h) Evt.ret
theorem mem_cpct(x:Int):∀l:List Int,x∈cpct l↔x∈l
 | []=>by simp[cpct]
 | [y]=>by simp[cpct]
 |y::z::l=>by
  rw[cpct_cons2]
  have:=mem_cpct x (z::l)
  split
  ·subst_vars;rw[this];simp
  ·rw[List.mem_cons,this];simp
theorem mem_rise(x:Int)(l:List Int):x∈rise l↔x∈l:=by
 unfold rise
 rw[mem_cpct]
 exact(isort_perm l).mem_iff
theorem cpct_sorted:∀l:List Int,l.Pairwise (· ≤ ·)->(cpct l).Pairwise (· ≤ ·)
 | [],_=>by simp[cpct]
 | [y],_=>by simp[cpct]
 |y::z::l,h=>by
  rw[cpct_cons2]
  have h2:=cpct_sorted (z::l) (List.pairwise_cons.1 h).2
  split
  ·exact h2
  ·refine List.pairwise_cons.2 ⟨fun w hw=>?_,h2⟩
   exact(List.pairwise_cons.1 h).1 w ((mem_cpct w _).1 hw)
theorem rise_sorted(l:List Int):(rise l).Pairwise (· ≤ ·):=cpct_sorted _ (isort_sorted l)
theorem last_max:∀(l:List Int) (h:l≠[]),l.Pairwise (· ≤ ·)->∀x∈l,x≤l.getLast h
 | [y],_,_,x,hx=>by simp at hx;simp[hx]
 |y::z::l,_,hp,x,hx=>by
  rw[List.getLast_cons (by simp)]
  have h2:=List.pairwise_cons.1 hp
  rcases List.mem_cons.1 hx with rfl|hx
  ·exact h2.1 _ (List.getLast_mem _)
  ·exact last_max (z::l) (by simp) h2.2 x hx
def rightT(t:Tm)(f n:Int):Bool:=shapedT t&&decide (looT t 0≤f)&&(colT t 6 7).all fun x=>decide (x<n)
theorem ev_Right(t:Tm)(f n:Int)(ho:t.Ok):Evt (fun q=>e107 q t f n) (rightT t f n):=by
 simp only[e107]
 refine(ev_Shaped t ho).bind ?_
 unfold rightT
 by_cases h:shapedT t=true
 ·have hs:=shapedT_spec h
  have hlen:=col_len t 6 7
  refine Evt.ifT h ((ev_loose t 0 hs.2.2 (by omega) (by omega)).bind ?_)
  rw[h]
  by_cases h2:looT t 0>f
  ·exact Evt.ifT (by simpa using h2) (Evt.ret.eq (by simp;omega))
  ·refine Evt.ifF (by simpa using h2) ((ev_Entries t ho).bind ?_)
   have h2':decide (looT t 0≤f)=true:=by simp;omega
   rw[h2']
   unfold numsT
   rw[if_pos h]
   have hr:=rise_len (colT t 6 7)
   by_cases h3:rise (colT t 6 7)=[]
   ·refine Evt.ifT (by rw[h3];rfl) (Evt.ret.eq ?_)
    symm
    simp only[Bool.true_and,List.all_eq_true]
    intro x hx
    rw[←mem_rise,h3]at hx;cases hx
   ·have hpos:0<(rise (colT t 6 7)).length:=List.length_pos_iff.2 h3
    refine Evt.ifF (by simp;omega) (Evt.pure (a:=(rise (colT t 6 7)).getLast h3) ?_ (Evt.ret.eq ?_))
    ·rw[w64_id (by omega) (by omega)]
     unfold gidx
     rw[if_pos (by omega),List.getLast_eq_getElem,show ((rise (colT t 6 7)).length-1:Int).toNat=(rise (colT t 6 7)).length-1 by omega]
     exact List.getElem?_eq_getElem _
    ·have hm:=last_max _ h3 (rise_sorted _)
     rw[Bool.eq_iff_iff]
     simp only[decide_eq_true_eq,Bool.true_and,List.all_eq_true]
     constructor
     ·intro h4 x hx
      have:=hm x ((mem_rise x _).2 hx)
      omega
     ·intro h4
      exact h4 _ ((mem_rise _ _).1 (List.getLast_mem h3))
 ·exact Evt.ifF (by simpa using h) (Evt.ret.eq (by simp[h]))
mutual
def e189:Nat->Tm->Option (Tm)
 |0,_=>none
 |qq+1,p0=>
 e189Laf qq p0 0 []
def e189Laf:Nat->Tm->Int->(List Tm)->Option (Tm)
 |0,_,_,_=>none
 |qq+1,p0,v14,vb1_2=>
 if decide (v14<(List.length p0.sub:Int))then
 gidx p0.sub v14>>=fun x2=>
 e189 qq x2>>=fun r4=>
 gapp 40 vb1_2 [r4]>>=fun l6=>
 e189Laf qq p0 (w64 (v14+1)) l6
 else
 some (Tm.mk p0.k p0.n vb1_2)
end
def g189LafE0(j:Nat->Value)(p0:Tm)(v14:Int)(vb1_2:List Tm):=sp j 27 0 [(2,.mp 0 0),(3,.mp 1 0),(12,slv tmCells p0.sub .no),(13,ai (List.length p0.sub:Int)),(14,ai v14)]
def g189LafS0(p0:Tm)(v14:Int)(vb1_2:List Tm):LSt:=⟨[(0,.cells [ai 0,ai 0,slv tmCells ([]:List Tm) .nl]),(1,.cells [ai p0.k,ai p0.n,slv tmCells vb1_2 (.st 0 3)])],2,[0],1,[]⟩
abbrev K189 (p0 r:Tm) (C:Cf):Prop:=C 189 [] [tmA p0] (tmA r) [] 0
theorem q189:Qf 189 Tryz.f189:=⟨Tryz.func189,by kernel_rfl⟩
theorem k189{p0 r}(h:K189 p0 r Ci):K189 p0 r Ct:=⟨h,⟨⟨tv,tv,⟨tv,dT _⟩,tv⟩,tv⟩,forall_nil,⟨tv,tv,dT _,tv⟩,forall_nil⟩
theorem a189_189Laf:∀qq:Nat,(∀p0 r,e189 qq p0=some r->K189 p0 r Ct)∧(∀p0 v14 vb1_2 r,e189Laf qq p0 v14 vb1_2=some r->(∀j,Dl Tryz.prog 0 (inn (inn (rgt (lft (rgt (rgt (bod Tryz.f189))))))) (g189LafE0 j p0 v14 vb1_2) (g189LafS0 p0 v14 vb1_2) (frameQ Tryz.prog 0 (FinQ Tryz.prog 0 Tryz.f189 (tmA r) [] 0) [.blk 0,.seq (rgt (rgt (rgt (bod Tryz.f189))))]))):=by
 intro qq
 induction qq with
 |zero=>
  exact⟨fun _ _ h=>nn h,fun _ _ _ _ h=>nn h⟩
 |succ qq ih=>
  obtain⟨ih189,ih189Laf⟩:=ih
  refine⟨?_,?_⟩
  intro p0 r h
  rw[e189]at h
  exact k189 (tH q189 5 [(some 2,2,3)] [1,2] [0] [2,3,12,13,14] (oD (dT p0.sub)<|oD (dT ([]:List Tm))<|oD (dT ([]:List Tm)) o0) (ih189Laf _ _ _ _ h))
  intro p0 v14 vb1_2 r h
  rw[e189Laf]at h
  rcases spl h with⟨h1,h⟩|⟨h1,h⟩
  obtain⟨x2,h3,h⟩:=obind h
  obtain⟨r4,h5,h⟩:=obind h
  obtain⟨l6,h7,h⟩:=obind h
  exact fun j=>lH 2 [] [0,1] [1] [2,3,12,13,14] (oD (dT p0.sub)<|oD (dT l6)<|oD (dT ([]:List Tm))<|oP 0 (apS23 h7 (by simp))<|oS 0 (obLitR tm_eq [r4])<|oC 4 [] (ih189 _ _ h5)<|oA 0 (ix23 (o:=.no) h3)<|oB 0 h1 o0) (ih189Laf _ _ _ _ h)
  obtain rfl:=sj h
  exact fun j=>lF 2 [] (oD (dT vb1_2)<|oB 0 h1 o0)
theorem c189{qq p0 r}(h:e189 qq p0=some r):K189 p0 r Ct:=(a189_189Laf _).1 _ _ h
def e123(qq:Nat)(p0:Tm):Option (Tm):=
 e89 qq p0>>=fun r1=>
 if r1 then
 e189 qq p0>>=fun r4=>
 some r4
 else
 some (Tm.mk 0 0 [])
abbrev K123 (p0 r:Tm) (C:Cf):Prop:=C 123 [] [tmA p0] (tmA r) [] 0
theorem q123:Qf 123 Tryz.f123:=⟨Tryz.func123,by kernel_rfl⟩
theorem k123{p0 r}(h:K123 p0 r Ci):K123 p0 r Ct:=⟨h,⟨⟨tv,tv,⟨tv,dT _⟩,tv⟩,tv⟩,forall_nil,⟨tv,tv,dT _,tv⟩,forall_nil⟩
theorem c123{qq p0 r}(h:e123 qq p0=some r):K123 p0 r Ct:=by
 unfold e123 at h
 obtain⟨r1,h2,h⟩:=obind h
 rcases spl h with⟨h3,h⟩|⟨h3,h⟩
 obtain⟨r4,h5,h⟩:=obind h
 obtain rfl:=sj h
 exact k123 (tF q123 1 [] (oD (dT r4.sub)<|oC 2 [] (c189 h5)<|oK 1 [] h3 (c89 h2) o0))
 obtain rfl:=sj h
 exact k123 (tF q123 2 [] (oD (dT ([]:List Tm))<|oK 1 [] h3 (c89 h2) o0))
def e219(qq:Nat)(p0 p1:Int)(p2:List Tm):Option (Tm):=
 some (Tm.mk p0 p1 p2)
abbrev K219 (p0 p1:Int) (p2:List Tm) (r:Tm) (C:Cf):Prop:=C 219 [] [ai p0,ai p1,slv tmCells p2 .no] (tmA r) [] 0
theorem q219:Qf 219 Tryz.f219:=⟨Tryz.func219,by kernel_rfl⟩
theorem k219{p0 p1 p2 r}(h:K219 p0 p1 p2 r Ci):K219 p0 p1 p2 r Ct:=⟨h,⟨tv,tv,⟨tv,dT _⟩,tv⟩,forall_nil,⟨tv,tv,dT _,tv⟩,forall_nil⟩
theorem c219{qq p0 p1 p2 r}(h:e219 qq p0 p1 p2=some r):K219 p0 p1 p2 r Ct:=by
 unfold e219 at h
 obtain rfl:=sj h
 exact k219 (tF q219 1 [] (oD (dT p2) o0))
def e156(qq:Nat)(p0 p1:Tm):Option (Tm):=
 e219 qq 5 0 [p0,p1]>>=fun r1=>
 some r1
abbrev K156 (p0 p1 r:Tm) (C:Cf):Prop:=C 156 [] [tmA p0,tmA p1] (tmA r) [] 0
theorem q156:Qf 156 Tryz.f156:=⟨Tryz.func156,by kernel_rfl⟩
theorem k156{p0 p1 r}(h:K156 p0 p1 r Ci):K156 p0 p1 r Ct:=⟨h,⟨⟨tv,tv,⟨tv,dT _⟩,tv⟩,⟨tv,tv,⟨tv,dT _⟩,tv⟩,tv⟩,forall_nil,⟨tv,tv,dT _,tv⟩,forall_nil⟩
theorem c156{qq p0 p1 r}(h:e156 qq p0 p1=some r):K156 p0 p1 r Ct:=by
 unfold e156 at h
 obtain⟨r1,h2,h⟩:=obind h
 obtain rfl:=sj h
 exact k156 (tF q156 1 [] (oD (dT r1.sub)<|oC 0 [] (c219 h2)<|oS 2 (obLitR tm_eq [p0,p1]) o0))
def e151Lag:Nat->(List Tm)->Int->Int->Int->(List Tm)->Option (Tm)
 |0,_,_,_,_,_=>none
 |qq+1,p1,v9,vb0_0,vb0_1,vb0_2=>
 if decide (v9<(List.length p1:Int))then
 gidx p1 v9>>=fun x2=>
 e156 qq (Tm.mk vb0_0 vb0_1 vb0_2) x2>>=fun r4=>
 e151Lag qq p1 (w64 (v9+1)) r4.k r4.n r4.sub
 else
 some (Tm.mk vb0_0 vb0_1 vb0_2)
def e151(qq:Nat)(p0:Tm)(p1:List Tm):Option (Tm):=
 e151Lag qq p1 0 p0.k p0.n p0.sub
def g151LagE0(j:Nat->Value)(p1:List Tm)(v9 vb0_0 vb0_1:Int)(vb0_2:List Tm):=sp j 18 0 [(2,.mp 0 0),(4,.mp 1 0),(7,slv tmCells p1 .no),(8,ai (List.length p1:Int)),(9,ai v9)]
def g151LagS0(p1:List Tm)(v9 vb0_0 vb0_1:Int)(vb0_2:List Tm):LSt:=⟨[(0,.cells [ai vb0_0,ai vb0_1,slv tmCells vb0_2 .no]),(1,.cells [ai 0,ai 0,slv tmCells ([]:List Tm) .nl])],2,[],0,[]⟩
abbrev K151 (p0:Tm) (p1:List Tm) (r:Tm) (C:Cf):Prop:=C 151 [] [tmA p0,slv tmCells p1 .no] (tmA r) [] 0
theorem q151:Qf 151 Tryz.f151:=⟨Tryz.func151,by kernel_rfl⟩
theorem k151{p0 p1 r}(h:K151 p0 p1 r Ci):K151 p0 p1 r Ct:=⟨h,⟨⟨tv,tv,⟨tv,dT _⟩,tv⟩,⟨tv,dT _⟩,tv⟩,forall_nil,⟨tv,tv,dT _,tv⟩,forall_nil⟩
theorem l151Lag:∀qq:Nat,(∀p1 v9 vb0_0 vb0_1 vb0_2 r,e151Lag qq p1 v9 vb0_0 vb0_1 vb0_2=some r->(∀j,Dl Tryz.prog 0 (inn (inn (rgt (lft (rgt (bod Tryz.f151)))))) (g151LagE0 j p1 v9 vb0_0 vb0_1 vb0_2) (g151LagS0 p1 v9 vb0_0 vb0_1 vb0_2) (frameQ Tryz.prog 0 (FinQ Tryz.prog 0 Tryz.f151 (tmA r) [] 0) [.blk 0,.seq (rgt (rgt (bod Tryz.f151)))]))):=by
 intro qq
 induction qq with
 |zero=>
  exact fun _ _ _ _ _ _ h=>nn h
 |succ qq ih=>
  intro p1 v9 vb0_0 vb0_1 vb0_2 r h
  rw[e151Lag]at h
  rcases spl h with⟨h1,h⟩|⟨h1,h⟩
  obtain⟨x2,h3,h⟩:=obind h
  obtain⟨r4,h5,h⟩:=obind h
  exact fun j=>lH 2 [] [0,1] [] [2,4,7,8,9] (oD (dT p1)<|oD (dT ([]:List Tm))<|oD (dT r4.sub)<|oC 4 [] (c156 h5)<|oA 0 (ix23 (o:=.no) h3)<|oB 0 h1 o0) (ih _ _ _ _ _ _ h)
  obtain rfl:=sj h
  exact fun j=>lF 2 [] (oD (dT vb0_2)<|oB 0 h1 o0)
theorem c151{qq p0 p1 r}(h:e151 qq p0 p1=some r):K151 p0 p1 r Ct:=by
 unfold e151 at h
 exact k151 (tH q151 1 [] [0,1] [] [2,4,7,8,9] (oD (dT p1)<|oD (dT ([]:List Tm))<|oD (dT p0.sub) o0) (l151Lag _ _ _ _ _ _ _ h))
theorem spA1(j:Nat->Value)(ls:List L3)(x:Tm)(u:List AV)(vs:List Value)(o:Own):krun Tryz.prog prim 3000 (.run (inn (inn (lft (rgt (rgt (rgt (bod Tryz.f167)))))))) [] [.val (j 0),.mp 0 0,.mp 1 0,.val (j 3),.sl (flat c3 ls) ls.length (.st 0 3),.mp 2 0,.val (j 6),.val (j 7),.val (j 8),.val (j 9),.val (j 10),.val (j 11),.val (j 12),.val (j 13),.val (j 14),.val (j 15),.val (j 16),.val (j 17),.val (j 18),.val (j 19),.val (j 20),.val (j 21),.val (j 22),.val (j 23),.val (j 24),.val (j 25),.val (j 26),.val (j 27),.val (j 28),.val (j 29),.val (j 30),.val (j 31),.val (j 32),.val (j 33),.val (j 34)] ⟨[(0,.cells u),(1,.cells [ai 0,ai 0,.sl [] 0 .nl]),(2,.cells [ai x.k,ai x.n,.sl (vs.map .val) x.sub.length o])],3,[0],1,[]⟩ [.no,.bit false]=some (.fin (.exit 0),[.val (j 0),.mp 0 0,.mp 1 0,.val (j 3),.sl (flat c3 ls) ls.length (.st 0 3),.mp 2 0,.val (j 6),.mp 2 0,ai x.k,ab false,ab false,.val undef,.val undef,.val undef,.val undef,ab false,.val (j 16),.val (j 17),.val (j 18),.val (j 19),.val (j 20),.val (j 21),.val (j 22),.val (j 23),.val (j 24),.val (j 25),.val (j 26),.val (j 27),.val (j 28),.val (j 29),.val (j 30),.val (j 31),.val (j 32),.val (j 33),.val (j 34)],⟨[(0,.cells u),(1,.cells [ai 0,ai 0,.sl [] 0 .nl]),(2,.cells [ai x.k,ai x.n,.sl (vs.map .val) x.sub.length o])],3,[0],1,[]⟩,[],[.bit (x.k==5) false]):=by kernel_rfl
theorem spA2(j:Nat->Value)(ls:List L3)(x:Tm)(u:List AV)(vs:List Value)(o:Own):(xops Tryz.prog prim (regOps (lft (rgt (rgt (rgt (rgt (bod Tryz.f167))))))) ((regOps (lft (rgt (rgt (rgt (rgt (bod Tryz.f167))))))).toList.take 1) 0 [.val (j 0),.mp 0 0,.mp 1 0,.val (j 3),.sl (flat c3 ls) ls.length (.st 0 3),.mp 2 0,.val (j 6),.mp 2 0,ai x.k,ab false,ab false,.val undef,.val undef,.val undef,.val undef,ab false,.val (j 16),.val (j 17),.val (j 18),.val (j 19),.val (j 20),.val (j 21),.val (j 22),.val (j 23),.val (j 24),.val (j 25),.val (j 26),.val (j 27),.val (j 28),.val (j 29),.val (j 30),.val (j 31),.val (j 32),.val (j 33),.val (j 34)] ⟨[(0,.cells u),(1,.cells [ai 0,ai 0,.sl [] 0 .nl]),(2,.cells [ai x.k,ai x.n,.sl (vs.map .val) x.sub.length o])],3,[0],1,[]⟩ []).map Prod.snd=some ([.val (j 0),.mp 0 0,.mp 1 0,.val (j 3),.sl (flat c3 ls) ls.length (.st 0 3),.mp 2 0,.val (j 6),.mp 2 0,ai x.k,ab false,ab false,.val undef,.val undef,.val undef,.val undef,ab false,.val (j 16),.val (j 17),.val (j 18),.val (j 19),.val (j 20),.val (j 21),.val (j 22),.val (j 23),.val (j 24),.val (j 25),.val (j 26),.val (j 27),.val (j 28),.val (j 29),.val (j 30),.sl (flat c3 ls) ls.length (.st 0 3),.val (j 32),.val (j 33),.val (j 34)],⟨[(0,.cells u),(1,.cells [ai 0,ai 0,.sl [] 0 .nl]),(2,.cells [ai x.k,ai x.n,.sl (vs.map .val) x.sub.length o])],3,[0],1,[]⟩,[],[]):=by kernel_rfl
theorem spA3(j i:Nat->Value)(ls:List L3)(l:List Tm)(x:Tm)(u:List AV)(vs:List Value)(o:Own):(xops Tryz.prog prim (regOps (lft (rgt (rgt (rgt (rgt (bod Tryz.f167))))))) ((regOps (lft (rgt (rgt (rgt (rgt (bod Tryz.f167))))))).toList.drop 2) 2 (eset (tells [(4,.sl (flat tmCells l.reverse) l.length .no)] (mutEnv [1,2] i [.val (j 0),.mp 0 0,.mp 1 0,.val (j 3),.sl (flat c3 ls) ls.length (.st 0 3),.mp 2 0,.val (j 6),.mp 2 0,ai x.k,ab false,ab false,.val undef,.val undef,.val undef,.val undef,ab false,.val (j 16),.val (j 17),.val (j 18),.val (j 19),.val (j 20),.val (j 21),.val (j 22),.val (j 23),.val (j 24),.val (j 25),.val (j 26),.val (j 27),.val (j 28),.val (j 29),.val (j 30),.sl (flat c3 ls) ls.length (.st 0 3),.val (j 32),.val (j 33),.val (j 34)] 0)) (some 32) (.tup [])) (pickSt [1,2] ⟨[(0,.cells u),(1,.cells [ai 0,ai 0,.sl [] 0 .nl]),(2,.cells [ai x.k,ai x.n,.sl (vs.map .val) x.sub.length o])],3,[0],1,[]⟩) []).map Prod.snd=some ([.val (j 0),.val (i 1),.mp 1 0,.val (j 3),.sl (flat tmCells l.reverse) l.length .no,.mp 2 0,.val (j 6),.mp 2 0,ai x.k,ab false,ab false,.val undef,.val undef,.val undef,.val undef,ab false,.val (j 16),.val (j 17),.val (j 18),.val (j 19),.val (j 20),.val (j 21),.val (j 22),.val (j 23),.val (j 24),.val (j 25),.val (j 26),.val (j 27),.val (j 28),.val (j 29),.val (j 30),.val (i 31),.tup [],.val (j 33),.val (j 34)],⟨[(1,.cells [ai 0,ai 0,.sl [] 0 .nl]),(2,.cells [ai x.k,ai x.n,.sl (vs.map .val) x.sub.length o])],3,[],0,[]⟩,[],[]):=by kernel_rfl
theorem spA4(j i:Nat->Value)(l:List Tm)(x:Tm)(vs:List Value)(o:Own):kfin Tryz.prog prim 0 Tryz.f167 3000 (.run (rgt (rgt (rgt (rgt (rgt (bod Tryz.f167))))))) [] [.val (j 0),.val (i 1),.mp 1 0,.val (j 3),.sl (flat tmCells l.reverse) l.length .no,.mp 2 0,.val (j 6),.mp 2 0,ai x.k,ab false,ab false,.val undef,.val undef,.val undef,.val undef,ab false,.val (j 16),.val (j 17),.val (j 18),.val (j 19),.val (j 20),.val (j 21),.val (j 22),.val (j 23),.val (j 24),.val (j 25),.val (j 26),.val (j 27),.val (j 28),.val (j 29),.val (j 30),.val (i 31),.tup [],.val (j 33),.val (j 34)] ⟨[(1,.cells [ai 0,ai 0,.sl [] 0 .nl]),(2,.cells [ai x.k,ai x.n,.sl (vs.map .val) x.sub.length o])],3,[],0,[]⟩ [.no,.no] [] [] [] false=some (.tup [.agg [ai x.k,ai x.n,.sl (vs.map .val) x.sub.length .no],.sl (flat tmCells l.reverse) l.length .no],[],[.data (vs.map .val),.data (flat tmCells l.reverse)]):=by kernel_rfl
theorem spB1(j:Nat->Value)(ls:List L3)(x:Tm)(u:List AV)(vs:List Value)(o:Own):krun Tryz.prog prim 3000 (.run (inn (inn (lft (rgt (rgt (rgt (bod Tryz.f167)))))))) [] [.val (j 0),.mp 0 0,.mp 1 0,.val (j 3),.sl (flat c3 ls) ls.length (.st 0 3),.mp 2 0,.val (j 6),.val (j 7),.val (j 8),.val (j 9),.val (j 10),.val (j 11),.val (j 12),.val (j 13),.val (j 14),.val (j 15),.val (j 16),.val (j 17),.val (j 18),.val (j 19),.val (j 20),.val (j 21),.val (j 22),.val (j 23),.val (j 24),.val (j 25),.val (j 26),.val (j 27),.val (j 28),.val (j 29),.val (j 30),.val (j 31),.val (j 32),.val (j 33),.val (j 34)] ⟨[(0,.cells u),(1,.cells [ai 0,ai 0,.sl [] 0 .nl]),(2,.cells [ai x.k,ai x.n,.sl (vs.map .val) x.sub.length o])],3,[0],1,[]⟩ [.no,.bit true,.no,.no,.bit false]=some (.fin (.exit 0),[.val (j 0),.mp 0 0,.mp 1 0,.val (j 3),.sl (flat c3 ls) ls.length (.st 0 3),.mp 2 0,.val (j 6),.mp 2 0,ai x.k,ab true,ab true,.mp 2 2,.sl (vs.map .val) x.sub.length o,ai (x.sub.length:Int),ab false,ab false,.val (j 16),.val (j 17),.val (j 18),.val (j 19),.val (j 20),.val (j 21),.val (j 22),.val (j 23),.val (j 24),.val (j 25),.val (j 26),.val (j 27),.val (j 28),.val (j 29),.val (j 30),.val (j 31),.val (j 32),.val (j 33),.val (j 34)],⟨[(0,.cells u),(1,.cells [ai 0,ai 0,.sl [] 0 .nl]),(2,.cells [ai x.k,ai x.n,.sl (vs.map .val) x.sub.length o])],3,[0],1,[]⟩,[],[.bit (x.k==5) true,.bit ((x.sub.length:Int)==2) false]):=by kernel_rfl
theorem spB2(j:Nat->Value)(ls:List L3)(x:Tm)(u:List AV)(vs:List Value)(o:Own):(xops Tryz.prog prim (regOps (lft (rgt (rgt (rgt (rgt (bod Tryz.f167))))))) ((regOps (lft (rgt (rgt (rgt (rgt (bod Tryz.f167))))))).toList.take 1) 0 [.val (j 0),.mp 0 0,.mp 1 0,.val (j 3),.sl (flat c3 ls) ls.length (.st 0 3),.mp 2 0,.val (j 6),.mp 2 0,ai x.k,ab true,ab true,.mp 2 2,.sl (vs.map .val) x.sub.length o,ai (x.sub.length:Int),ab false,ab false,.val (j 16),.val (j 17),.val (j 18),.val (j 19),.val (j 20),.val (j 21),.val (j 22),.val (j 23),.val (j 24),.val (j 25),.val (j 26),.val (j 27),.val (j 28),.val (j 29),.val (j 30),.val (j 31),.val (j 32),.val (j 33),.val (j 34)] ⟨[(0,.cells u),(1,.cells [ai 0,ai 0,.sl [] 0 .nl]),(2,.cells [ai x.k,ai x.n,.sl (vs.map .val) x.sub.length o])],3,[0],1,[]⟩ []).map Prod.snd=some ([.val (j 0),.mp 0 0,.mp 1 0,.val (j 3),.sl (flat c3 ls) ls.length (.st 0 3),.mp 2 0,.val (j 6),.mp 2 0,ai x.k,ab true,ab true,.mp 2 2,.sl (vs.map .val) x.sub.length o,ai (x.sub.length:Int),ab false,ab false,.val (j 16),.val (j 17),.val (j 18),.val (j 19),.val (j 20),.val (j 21),.val (j 22),.val (j 23),.val (j 24),.val (j 25),.val (j 26),.val (j 27),.val (j 28),.val (j 29),.val (j 30),.sl (flat c3 ls) ls.length (.st 0 3),.val (j 32),.val (j 33),.val (j 34)],⟨[(0,.cells u),(1,.cells [ai 0,ai 0,.sl [] 0 .nl]),(2,.cells [ai x.k,ai x.n,.sl (vs.map .val) x.sub.length o])],3,[0],1,[]⟩,[],[]):=by kernel_rfl
theorem spB3(j i:Nat->Value)(ls:List L3)(l:List Tm)(x:Tm)(u:List AV)(vs:List Value)(o:Own):(xops Tryz.prog prim (regOps (lft (rgt (rgt (rgt (rgt (bod Tryz.f167))))))) ((regOps (lft (rgt (rgt (rgt (rgt (bod Tryz.f167))))))).toList.drop 2) 2 (eset (tells [(4,.sl (flat tmCells l.reverse) l.length .no)] (mutEnv [1,2] i [.val (j 0),.mp 0 0,.mp 1 0,.val (j 3),.sl (flat c3 ls) ls.length (.st 0 3),.mp 2 0,.val (j 6),.mp 2 0,ai x.k,ab true,ab true,.mp 2 2,.sl (vs.map .val) x.sub.length o,ai (x.sub.length:Int),ab false,ab false,.val (j 16),.val (j 17),.val (j 18),.val (j 19),.val (j 20),.val (j 21),.val (j 22),.val (j 23),.val (j 24),.val (j 25),.val (j 26),.val (j 27),.val (j 28),.val (j 29),.val (j 30),.sl (flat c3 ls) ls.length (.st 0 3),.val (j 32),.val (j 33),.val (j 34)] 0)) (some 32) (.tup [])) (pickSt [1,2] ⟨[(0,.cells u),(1,.cells [ai 0,ai 0,.sl [] 0 .nl]),(2,.cells [ai x.k,ai x.n,.sl (vs.map .val) x.sub.length o])],3,[0],1,[]⟩) []).map Prod.snd=some ([.val (j 0),.val (i 1),.mp 1 0,.val (j 3),.sl (flat tmCells l.reverse) l.length .no,.mp 2 0,.val (j 6),.mp 2 0,ai x.k,ab true,ab true,.mp 2 2,.val (i 12),ai (x.sub.length:Int),ab false,ab false,.val (j 16),.val (j 17),.val (j 18),.val (j 19),.val (j 20),.val (j 21),.val (j 22),.val (j 23),.val (j 24),.val (j 25),.val (j 26),.val (j 27),.val (j 28),.val (j 29),.val (j 30),.val (i 31),.tup [],.val (j 33),.val (j 34)],⟨[(1,.cells [ai 0,ai 0,.sl [] 0 .nl]),(2,.cells [ai x.k,ai x.n,.sl (vs.map .val) x.sub.length o])],3,[],0,[]⟩,[],[]):=by kernel_rfl
theorem spB4(j i:Nat->Value)(l:List Tm)(x:Tm)(vs:List Value)(o:Own):kfin Tryz.prog prim 0 Tryz.f167 3000 (.run (rgt (rgt (rgt (rgt (rgt (bod Tryz.f167))))))) [] [.val (j 0),.val (i 1),.mp 1 0,.val (j 3),.sl (flat tmCells l.reverse) l.length .no,.mp 2 0,.val (j 6),.mp 2 0,ai x.k,ab true,ab true,.mp 2 2,.val (i 12),ai (x.sub.length:Int),ab false,ab false,.val (j 16),.val (j 17),.val (j 18),.val (j 19),.val (j 20),.val (j 21),.val (j 22),.val (j 23),.val (j 24),.val (j 25),.val (j 26),.val (j 27),.val (j 28),.val (j 29),.val (j 30),.val (i 31),.tup [],.val (j 33),.val (j 34)] ⟨[(1,.cells [ai 0,ai 0,.sl [] 0 .nl]),(2,.cells [ai x.k,ai x.n,.sl (vs.map .val) x.sub.length o])],3,[],0,[]⟩ [.no,.no] [] [] [] false=some (.tup [.agg [ai x.k,ai x.n,.sl (vs.map .val) x.sub.length .no],.sl (flat tmCells l.reverse) l.length .no],[],[.data (vs.map .val),.data (flat tmCells l.reverse)]):=by kernel_rfl
theorem spC(j:Nat->Value)(p0:Tm)(q0:Option Addr×Nat×Nat)(ls:List L3)(x:Tm)(vs:List Value)(o:Own):kfin Tryz.prog prim 0 Tryz.f167 3000 (.run (inn (inn (lft (rgt (rgt (rgt (bod Tryz.f167)))))))) [.loop (inn (inn (lft (rgt (rgt (rgt (bod Tryz.f167))))))),.blk 0,.seq (rgt (rgt (rgt (rgt (bod Tryz.f167)))))] [.val (j 0),.mp 0 0,.mp 1 0,.val (j 3),.sl (flat c3 ls) ls.length (.st 0 3),.mp 2 0,.val (j 6),.val (j 7),.val (j 8),.val (j 9),.val (j 10),.val (j 11),.val (j 12),.val (j 13),.val (j 14),.val (j 15),.val (j 16),.val (j 17),.val (j 18),.val (j 19),.val (j 20),.val (j 21),.val (j 22),.val (j 23),.val (j 24),.val (j 25),.val (j 26),.val (j 27),.val (j 28),.val (j 29),.val (j 30),.val (j 31),.val (j 32),.val (j 33),.val (j 34)] ⟨[(0,.cells [.val (.int .i64 p0.k),.val (.int .i64 p0.n),.val (.slice q0.1 q0.2.1 q0.2.2)]),(1,.cells [ai 0,ai 0,.sl [] 0 .nl]),(2,.cells [ai x.k,ai x.n,.sl (vs.map .val) x.sub.length o])],3,[0],1,[]⟩ [.no,.bit true,.no,.no,.bit true,.no,.bit true,.no,.no] [] [] [] false=some (.tup [.agg [.val (.int .i64 p0.k),.val (.int .i64 p0.n),.val (.slice q0.1 q0.2.1 q0.2.2)],.sl [] 0 .no],[],[.bit (x.k==5) true,.bit ((x.sub.length:Int)==2) true,.bit (decide ((ls.length:Int)≥8192)) true,.data []]):=by kernel_rfl
theorem spD(i j:Nat->Value)(k n:Int)(a b:Tm)(qa qb:Option Addr×Nat×Nat)(u0 u1 u2:Value)(ls ls2:List L3)(o:Own):khead Tryz.prog prim 0 3000 (.run (inn (inn (lft (rgt (rgt (rgt (bod Tryz.f167)))))))) [.loop (inn (inn (lft (rgt (rgt (rgt (bod Tryz.f167))))))),.blk 0,.seq (rgt (rgt (rgt (rgt (bod Tryz.f167)))))] [.val (j 0),.mp 0 0,.mp 1 0,.val (j 3),.sl (flat c3 ls) ls.length (.st 0 3),.mp 2 0,.val (j 6),.val (j 7),.val (j 8),.val (j 9),.val (j 10),.val (j 11),.val (j 12),.val (j 13),.val (j 14),.val (j 15),.val (j 16),.val (j 17),.val (j 18),.val (j 19),.val (j 20),.val (j 21),.val (j 22),.val (j 23),.val (j 24),.val (j 25),.val (j 26),.val (j 27),.val (j 28),.val (j 29),.val (j 30),.val (j 31),.val (j 32),.val (j 33),.val (j 34)] ⟨[(0,.cells [.val u0,.val u1,.val u2]),(1,.cells [ai 0,ai 0,.sl [] 0 .nl]),(2,.cells [ai k,ai n,.sl [.val (.int .i64 a.k),.val (.int .i64 a.n),.val (.slice qa.1 qa.2.1 qa.2.2),.val (.int .i64 b.k),.val (.int .i64 b.n),.val (.slice qb.1 qb.2.1 qb.2.2)] 2 o])],3,[0],1,[]⟩ [.no,.bit true,.no,.no,.bit true,.no,.bit false,.no,.no,.no,.no,.app (flat c3 ls2) ls2.length 3 false,.no,.no,.no,.no] [] [0,1,2] [1] [1,2,4,5] i=some (inn (inn (lft (rgt (rgt (rgt (bod Tryz.f167)))))),[.blk 0,.seq (rgt (rgt (rgt (rgt (bod Tryz.f167)))))],[.val (i 0),.mp 0 0,.mp 1 0,.val (i 3),.sl (flat c3 ls2) ls2.length (.st 0 3),.mp 2 0,.val (i 6),.val (i 7),.val (i 8),.val (i 9),.val (i 10),.val (i 11),.val (i 12),.val (i 13),.val (i 14),.val (i 15),.val (i 16),.val (i 17),.val (i 18),.val (i 19),.val (i 20),.val (i 21),.val (i 22),.val (i 23),.val (i 24),.val (i 25),.val (i 26),.val (i 27),.val (i 28),.val (i 29),.val (i 30),.val (i 31),.val (i 32),.val (i 33),.val (i 34)],⟨[(0,.cells [.val u0,.val u1,.val u2]),(1,.cells [ai 0,ai 0,.sl [] 0 .nl]),(2,.cells [.val (.int .i64 a.k),.val (.int .i64 a.n),.val (.slice qa.1 qa.2.1 qa.2.2)])],3,[0],1,[]⟩,[.bit (k==5) true,.bit ((2:Int)==2) true,.bit (decide ((ls.length:Int)≥8192)) false,.app 23 23 (flat c3 ls) [.val (.int .i64 b.k),.val (.int .i64 b.n),.val (.slice qb.1 qb.2.1 qb.2.2)] (flat c3 ls2) ls.length 1 ls2.length 3 false,.data [],.data (flat c3 ls2)]):=by kernel_rfl
theorem spE(i:Nat->Value)(u0 u1:Int)(u2:Option Addr×Nat×Nat):khead Tryz.prog prim 0 3000 (.run (bod Tryz.f167)) [] ([.agg [.val (.int .i64 u0),.val (.int .i64 u1),.val (.slice u2.1 u2.2.1 u2.2.2)]]++List.replicate (Tryz.f167.ntmps-1) (.val undef)) (st0 []) [.no,.no] [(none,4,3)] [0,1,2] [0] [1,2,4,5] i=some (inn (inn (lft (rgt (rgt (rgt (bod Tryz.f167)))))),[.blk 0,.seq (rgt (rgt (rgt (rgt (bod Tryz.f167)))))],[.val (i 0),.mp 0 0,.mp 1 0,.val (i 3),.sl [] 0 (.st 0 3),.mp 2 0,.val (i 6),.val (i 7),.val (i 8),.val (i 9),.val (i 10),.val (i 11),.val (i 12),.val (i 13),.val (i 14),.val (i 15),.val (i 16),.val (i 17),.val (i 18),.val (i 19),.val (i 20),.val (i 21),.val (i 22),.val (i 23),.val (i 24),.val (i 25),.val (i 26),.val (i 27),.val (i 28),.val (i 29),.val (i 30),.val (i 31),.val (i 32),.val (i 33),.val (i 34)],⟨[(0,.cells [.val (.int .i64 u0),.val (.int .i64 u1),.val (.slice u2.1 u2.2.1 u2.2.2)]),(1,.cells [ai 0,ai 0,.sl [] 0 .nl]),(2,.cells [.val (.int .i64 u0),.val (.int .i64 u1),.val (.slice u2.1 u2.2.1 u2.2.2)])],3,[0],1,[]⟩,[.data [],.data []]):=by kernel_rfl
def sv(x:Tm)(q:Option Addr×Nat×Nat):List Value:=[.int .i64 x.k,.int .i64 x.n,.slice q.1 q.2.1 q.2.2]
def sv3(x:Tm)(q:Option Addr×Nat×Nat):L3:=⟨.int .i64 x.k,.int .i64 x.n,.slice q.1 q.2.1 q.2.2,rfl,rfl,rfl⟩
theorem VL.split{G:Gh}{w:World}:∀(cs bs:List AV) (us:List Value),VL G w (cs++bs) us->∃u1 u2,us=u1++u2∧VL G w cs u1∧VL G w bs u2
 | [],bs,us,h=>⟨[],us,rfl,by simp only[VL],h⟩
 |a::cs,bs,[],h=>by simp only[List.cons_append,VL]at h
 |a::cs,bs,u::us,h=>by
  simp only[List.cons_append,VL]at h
  obtain⟨u1,u2,rfl,h1,h2⟩:=VL.split cs bs us h.2
  exact⟨u::u1,u2,rfl,by simp only[VL];exact⟨h.1,h1⟩,h2⟩
theorem sv_of{G:Gh}{w:World}{x:Tm}{us:List Value}(h:VL G w (tmL x) us):∃q,us=sv x q:=by
 unfold tmL at h
 match us,h with
 | [],h=>simp only[VL]at h
 | [_],h=>simp only[VL,and_false]at h
 | [_,_],h=>simp only[VL,and_false]at h
 | [u0,u1,u2],h=>
  simp only[VL,and_true]at h
  obtain⟨h0,h1,h2⟩:=h
  simp only[V]at h0 h1 h2
  obtain⟨cap,_,⟨_,_,_,h,_⟩|⟨b,off,h,_⟩⟩:=h2
  ·obtain⟨p,h⟩:∃p,u2 = .slice p 0 0:=⟨_,h⟩
   exact⟨(p,0,0),by simp[sv,h0,h1,h]⟩
  ·exact⟨(some ⟨b,off,none⟩,x.sub.length,cap),by simp[sv,h0,h1,h]⟩
 |_::_::_::_::_,h=>simp only[VL,and_false]at h
theorem VC.lit{G G':Gh}{w w':World}(b:Nat)(hL:∀o,G.L b o->G'.L b o)(hc:∀o,w'.cell? ⟨b,o,none⟩=w.cell? ⟨b,o,none⟩):∀(vs:List Value) (off:Nat),VC G w (vs.map .val) b off->VC G' w' (vs.map .val) b off
 | [],_,_=>by simp only[List.map_nil,VC]
 |v::vs,off,h=>by
  simp only[List.map_cons,VC]at h ⊢
  obtain⟨h1,⟨u,h2,h3⟩,h4⟩:=h
  exact⟨hL _ h1,⟨u,(hc _).trans h2,by simpa only[V]using h3⟩,VC.lit b hL hc vs (off+1) h4⟩
theorem relit{G:Gh}{w:World}{vs:List Value}{n:Nat}{o:Own}{u:Value}{es:List AV}(h:V G w (.sl (vs.map .val) n o) u)(he:VL G w es vs):V G w (.sl es n .no) u:=by
 simp only[V]at h ⊢
 obtain⟨cap,hc,⟨h1,h2,h3,h4,_⟩|⟨b,off,h1,h2,_⟩⟩:=h
 ·have hv:vs=[]:=by simpa using h1
  subst hv
  have:=VL.length _ _ he
  exact⟨cap,hc,.inl ⟨List.length_eq_zero_iff.1 this.symm,h2,h3,h4,trivial⟩⟩
 ·refine⟨cap,hc,.inr ⟨b,off,h1,?_,trivial⟩⟩
  obtain⟨us,q1,q2⟩:=VC.cells _ _ _ h2
  have:=VL.litEq _ _ q1
  subst this
  exact VC.of_cells es us b off he (fun i hi=>(VC.cell _ _ _ i (.val us[i]) h2 (by simp[hi])).1) q2
theorem open_tm{na:Nb}{G0:Gh}{w:World}(hB:Base na G0){x:Tm}{q:Option Addr×Nat×Nat}(h:VL G0 w (tmL x) (sv x q)) :
  ∃(vs:List Value) (o:Own),VL G0 w (flat tmCells x.sub) vs∧VL G0 w [ai x.k,ai x.n,.sl (vs.map .val) x.sub.length o] (sv x q)∧Blk.lit (.cells [ai x.k,ai x.n,.sl (vs.map .val) x.sub.length o]):=by
 unfold tmL sv at h
 simp only[VL,and_true]at h
 obtain⟨_,_,h2⟩:=h
 have key:∃(vs:List Value) (o:Own),VL G0 w (flat tmCells x.sub) vs∧V G0 w (.sl (vs.map .val) x.sub.length o) (.slice q.1 q.2.1 q.2.2) ∧
   ∀(G G':Gh) (w w':World) (u:Value),G'.F=G.F->(∀b o,G.F b->G.L b o->G'.L b o)->(∀b o,G.F b->w'.cell? ⟨b,o,none⟩=w.cell? ⟨b,o,none⟩)->V G w (.sl (vs.map .val) x.sub.length o) u->V G' w' (.sl (vs.map .val) x.sub.length o) u:=by
  simp only[V]at h2
  obtain⟨cap,hc,⟨h1,h2,h3,h4,_⟩|⟨b,off,h1,h2,_⟩⟩:=h2
  ·refine⟨[],.no,by rw[h1];simp only[VL],?_,?_⟩
   ·simp only[V];exact⟨cap,hc,.inl ⟨rfl,h2,h3,h4,trivial⟩⟩
   ·intro G G' w w' u _ _ _ hu
    rw[h2]at hu ⊢
    exact V.none hu
  ·obtain⟨vs,q1,q2⟩:=VC.cells _ _ _ h2
   have hL:∀i,i<vs.length->G0.L b (off+i):=by
    intro i hi
    have hl:=VL.length _ _ q1
    exact(VC.cell _ _ _ i ((flat tmCells x.sub)[i]'(by omega)) h2 (by rw[List.getElem?_eq_getElem])).1
   have hcl:VC G0 w (vs.map .val) b off:=VC.of_cells _ vs b off (VL.lits vs) hL q2
   by_cases hs:vs=[]
   ·subst hs
    have hl:=VL.length _ _ q1
    have hfl:=flat_len codecT.len x.sub
    have h0:x.sub.length=0:=by simp at hl;omega
    refine⟨[],.no,q1,?_,?_⟩
    ·simp only[V];exact⟨cap,hc,.inr ⟨b,off,h1,hcl,trivial⟩⟩
    ·intro G G' w w' u _ _ _ hu
     rw[h0]at hu ⊢
     exact V.none hu
   ·have hF:G0.F b:=hB.LF b (off+0) (hL 0 (List.length_pos_iff.2 hs))
    refine⟨vs,.fr,q1,?_,?_⟩
    ·simp only[V];exact⟨cap,hc,.inr ⟨b,off,h1,hcl,hF⟩⟩
    ·intro G G' w w' u e1 e2 e3 hu
     simp only[V]at hu ⊢
     obtain⟨cap',hc',⟨p1,p2,p3,p4,_⟩|⟨b',off',p1,p2,p3⟩⟩:=hu
     ·exact⟨cap',hc',.inl ⟨p1,p2,p3,p4,trivial⟩⟩
     ·have p3':G.F b':=p3
      exact⟨cap',hc',.inr ⟨b',off',p1,VC.lit b' (fun o h=>e2 b' o p3' h) (fun o=>e3 b' o p3') vs off' p2,by show G'.F b';rw[e1];exact p3'⟩⟩
 obtain⟨vs,o,k1,k2,k3⟩:=key
 refine⟨vs,o,k1,?_,?_⟩
 ·simp only[sv,VL,V];simp only[V]at k2;exact⟨trivial,trivial,k2,trivial⟩
 ·intro G G' w w' us e1 e2 e3 hu
  match us,hu with
  | [],hu=>simp only[VL]at hu
  | [_],hu=>simp only[VL,and_false]at hu
  | [_,_],hu=>simp only[VL,and_false]at hu
  | [u0,u1,u2],hu=>
   simp only[VL,and_true]at hu ⊢
   exact⟨by simpa only[V]using hu.1,by simpa only[V]using hu.2.1,k3 G G' w w' u2 e1 e2 e3 hu.2.2⟩
  |_::_::_::_::_,hu=>simp only[VL,and_false]at hu
theorem zlit:Blk.lit (.cells [ai 0,ai 0,.sl [] 0 .nl]):=by
 intro G G' w w' us e1 e2 e3 hu
 match us,hu with
 | [],hu=>simp only[VL]at hu
 | [_],hu=>simp only[VL,and_false]at hu
 | [_,_],hu=>simp only[VL,and_false]at hu
 | [u0,u1,u2],hu=>
  simp only[VL,and_true]at hu ⊢
  refine⟨by simpa only[V]using hu.1,by simpa only[V]using hu.2.1,?_⟩
  have:=hu.2.2
  simp only[V]at this ⊢
  obtain⟨cap,h1,⟨_,_,h2,h3,h4⟩|⟨b,off,h2,_,h3⟩⟩:=this
  ·exact⟨cap,h1,.inl ⟨trivial,trivial,h2,h3,h4⟩⟩
  ·exact h3.elim
 |_::_::_::_::_,hu=>simp only[VL,and_false]at hu
def Good(G0:Gh)(res:AV)(r:Tm×List Tm):Prop:=∀W G' W',Ext G0 W G' W'->Keep G'.F G'.w0 W'->∀u,V G' W' res u->V G' W' (.tup [tmA r.1,.sl (flat tmCells r.2) (List.length r.2) .no]) u
def g167L0(p0:Tm):Tm->List Tm->Option (Tm×List Tm)
 | .mk k n [a,b],l=>
  if (k==5)=true then
   if decide ((List.length l:Int)≥8192)=true then some (p0,[])else(gapp 40 l [b])>>=fun l2=>g167L0 p0 a l2
  else some (.mk k n [a,b],l.reverse)
 |x,l=>some (x,l.reverse)
def g167(p0:Tm):Option (Tm×List Tm):=g167L0 p0 p0 []
theorem dVals:∀vs:List Value,AV.DataL (vs.map .val)
 | []=>trivial
 |_::vs=>⟨trivial,dVals vs⟩
theorem VL.rev{G:Gh}{w:World}:∀(l:List Tm) (ls:List L3),VL G w (flat tmCells l) (vals ls)->ls.length=l.length->VL G w (flat tmCells l.reverse) (vals ls.reverse)
 | [],[],_,_=>by simp[flat,vals,VL]
 |x::l,y::ls,h,hl=>by
  simp only[flat,vals,List.flatMap_cons]at h
  obtain⟨u1,u2,e,h1,h2⟩:=VL.split _ _ _ h
  have n1:=VL.length _ _ h1
  rw[codecT.len]at n1
  obtain⟨rfl,rfl⟩:=List.append_inj e (by rw[n1];rfl)
  have ih:=VL.rev l ls h2 (by simpa using hl)
  simp only[List.reverse_cons,flat,vals,List.flatMap_append,List.flatMap_cons,List.flatMap_nil,List.append_nil]
  exact VL.append _ _ _ _ ih h1
 | [],_::_,_,h=>by simp at h
 |_::_,[],_,h=>by simp at h
theorem good_exit{na:Nb}{G0:Gh}(hB:Base na G0){x:Tm}{l:List Tm}{vs:List Value}(v1:VL G0 G0.w0 (flat tmCells x.sub) vs)(hn:na.n=0:=by first|rfl|assumption):Good G0 (.tup [.agg [ai x.k,ai x.n,.sl (vs.map .val) x.sub.length .no],.sl (flat tmCells l.reverse) l.length .no]) (x,l.reverse):=by
 intro W G' W' hE hK u hu
 have v:=VL.later hB hE hK v1
 simp only[V,VL]at hu
 obtain⟨us,rfl,hus⟩:=hu
 match us,hus with
 | [],h=>simp only[VL]at h
 | [_],h=>simp only[VL,and_false]at h
 | [ua,ub],h=>
  simp only[VL,and_true]at h
  obtain⟨h1,h2⟩:=h
  simp only[V]at h1
  obtain⟨ws,rfl,hws⟩:=h1
  match ws,hws with
  | [],h=>simp only[VL]at h
  | [_],h=>simp only[VL,and_false]at h
  | [_,_],h=>simp only[VL,and_false]at h
  | [w0,w1,w2],h=>
   simp only[VL,and_true]at h
   obtain⟨g0,g1,g2⟩:=h
   have g3:=relit g2 v
   simp only[V]
   refine⟨[.agg #[w0,w1,w2],ub],rfl,?_⟩
   simp only[VL,and_true]
   refine⟨?_,by simpa using h2⟩
   simp only[tmA,V]
   exact⟨[w0,w1,w2],rfl,by simp only[tmL,VL,and_true];exact⟨g0,g1,g3⟩⟩
  |_::_::_::_::_,h=>simp only[VL,and_false]at h
 |_::_::_::_,h=>simp only[VL,and_false]at h
theorem good_long{na:Nb}{G0:Gh}(hB:Base na G0){x:Tm}{q:Option Addr×Nat×Nat}(h0:VL G0 G0.w0 (tmL x) (sv x q))(hn:na.n=0:=by first|rfl|assumption):Good G0 (.tup [.agg [.val (.int .i64 x.k),.val (.int .i64 x.n),.val (.slice q.1 q.2.1 q.2.2)],.sl [] 0 .no]) (x,[]):=by
 intro W G' W' hE hK u hu
 have v:=VL.later hB hE hK h0
 simp only[V,VL]at hu
 obtain⟨us,rfl,hus⟩:=hu
 match us,hus with
 | [],h=>simp only[VL]at h
 | [_],h=>simp only[VL,and_false]at h
 | [ua,ub],h=>
  simp only[VL,and_true]at h
  obtain⟨h1,h2⟩:=h
  simp only[V]at h1
  obtain⟨ws,rfl,hws⟩:=h1
  have hw:ws=sv x q:=VL.litEq (sv x q) ws hws
  subst hw
  simp only[V]
  refine⟨[.agg (sv x q).toArray,ub],rfl,?_⟩
  simp only[VL,and_true]
  refine⟨?_,by simpa[flat]using h2⟩
  simp only[tmA,V]
  exact⟨sv x q,rfl,v⟩
 |_::_::_::_,h=>simp only[VL,and_false]at h
theorem spAX{G0:Gh}{p0 x:Tm}{q0:Option Addr×Nat×Nat}{l:List Tm}{ls:List L3}{vs:List Value}{o:Own}(j:Nat->Value)(hlit:Blk.lit (.cells [ai x.k,ai x.n,.sl (vs.map .val) x.sub.length o]))(hl:VL G0 G0.w0 (flat tmCells l) (vals ls))(hlen:ls.length=l.length)(h8:l.length≤8192) :
  Dv Tryz.prog (⟨0,fun G=>G=G0⟩:Nb) (rgt (rgt (rgt (rgt (bod Tryz.f167))))) [.val (j 0),.mp 0 0,.mp 1 0,.val (j 3),.sl (flat c3 ls) ls.length (.st 0 3),.mp 2 0,.val (j 6),.mp 2 0,ai x.k,ab false,ab false,.val undef,.val undef,.val undef,.val undef,ab false,.val (j 16),.val (j 17),.val (j 18),.val (j 19),.val (j 20),.val (j 21),.val (j 22),.val (j 23),.val (j 24),.val (j 25),.val (j 26),.val (j 27),.val (j 28),.val (j 29),.val (j 30),.val (j 31),.val (j 32),.val (j 33),.val (j 34)] ⟨[(0,.cells [.val (.int .i64 p0.k),.val (.int .i64 p0.n),.val (.slice q0.1 q0.2.1 q0.2.2)]),(1,.cells [ai 0,ai 0,.sl [] 0 .nl]),(2,.cells [ai x.k,ai x.n,.sl (vs.map .val) x.sub.length o])],3,[0],1,[]⟩ (FinQ Tryz.prog (⟨0,fun G=>G=G0⟩:Nb) Tryz.f167 (.tup [.agg [ai x.k,ai x.n,.sl (vs.map .val) x.sub.length .no],.sl (flat tmCells l.reverse) l.length .no]) [] 0):=by
 have k1:knd (rgt (rgt (rgt (rgt (bod Tryz.f167)))))=1:=by kernel_rfl
 have k3:isReg (lft (rgt (rgt (rgt (rgt (bod Tryz.f167))))))=true:=by kernel_rfl
 have k4:clOf (regOps (lft (rgt (rgt (rgt (rgt (bod Tryz.f167)))))))[1]? = some (some 32,231,#[.tmp 31]):=by kernel_rfl
 have k5:(Tryz.f231.name == "runtime.NumGoroutine")=false:=by kernel_rfl
 have k6:Tryz.f231.body.isNone=false:=by kernel_rfl
 refine Dv.seqP k1 ?_
 obtain⟨id,k7⟩:=regP k3
 rw[k7]
 refine Dv.mut prim_ok (na:=(⟨0,fun G=>G=G0⟩:Nb)) rfl 1 [1,2] [(4,.sl (flat tmCells l.reverse) l.length .no)] (.tup []) (spA2 j ls x _ vs o) ObsOk.nil k4 Tryz.func231 k5 k6 ?_ ?_ (fun i=>spA3 j i ls l x _ vs o) ObsOk.nil ?_
 ·intro i X hm hX
  have:i=1∨i=2:=by simpa using any_beq.1 hm
  rcases this with rfl|rfl
  ·cases hX;exact zlit
  ·cases hX;exact hlit
 ·intro G1 W hB' G w hE hR u hu
  have e:=hB'.κ
  subst e
  refine(rev_call (l:=ls) hR (by rfl) (by omega) hu).mono ?_
  rintro e w' ⟨v,b,S,e1,e2,e3,e4,e5,e6,e7⟩
  refine⟨v,b,S,e1,e2,e3,e4,e5,fun G' hE' hK' hS=>⟨by subst e6;simp only[V];exact⟨[],rfl,by simp only[VL]⟩,?_⟩⟩
  intro p hp u' hu'
  have hp':=List.mem_singleton.1 hp
  subst hp'
  have:=e7 G' hS _ (VL.later hB' hE' hK' (VL.rev l ls hl hlen)) u' hu'
  rw[hlen]at this
  exact this
 ·intro i
  exact kfin_ok (na:=(⟨0,fun G=>G=G0⟩:Nb)) prim_ok mixed (spA4 j i l x vs o) (ObsOk.cons (obData (dVals vs)) (ObsOk.cons (obData (dT _)) ObsOk.nil)) (by decide)
theorem spBX{G0:Gh}{p0 x:Tm}{q0:Option Addr×Nat×Nat}{l:List Tm}{ls:List L3}{vs:List Value}{o:Own}(j:Nat->Value)(hlit:Blk.lit (.cells [ai x.k,ai x.n,.sl (vs.map .val) x.sub.length o]))(hl:VL G0 G0.w0 (flat tmCells l) (vals ls))(hlen:ls.length=l.length)(h8:l.length≤8192) :
  Dv Tryz.prog (⟨0,fun G=>G=G0⟩:Nb) (rgt (rgt (rgt (rgt (bod Tryz.f167))))) [.val (j 0),.mp 0 0,.mp 1 0,.val (j 3),.sl (flat c3 ls) ls.length (.st 0 3),.mp 2 0,.val (j 6),.mp 2 0,ai x.k,ab true,ab true,.mp 2 2,.sl (vs.map .val) x.sub.length o,ai (x.sub.length:Int),ab false,ab false,.val (j 16),.val (j 17),.val (j 18),.val (j 19),.val (j 20),.val (j 21),.val (j 22),.val (j 23),.val (j 24),.val (j 25),.val (j 26),.val (j 27),.val (j 28),.val (j 29),.val (j 30),.val (j 31),.val (j 32),.val (j 33),.val (j 34)] ⟨[(0,.cells [.val (.int .i64 p0.k),.val (.int .i64 p0.n),.val (.slice q0.1 q0.2.1 q0.2.2)]),(1,.cells [ai 0,ai 0,.sl [] 0 .nl]),(2,.cells [ai x.k,ai x.n,.sl (vs.map .val) x.sub.length o])],3,[0],1,[]⟩ (FinQ Tryz.prog (⟨0,fun G=>G=G0⟩:Nb) Tryz.f167 (.tup [.agg [ai x.k,ai x.n,.sl (vs.map .val) x.sub.length .no],.sl (flat tmCells l.reverse) l.length .no]) [] 0):=by
 have k1:knd (rgt (rgt (rgt (rgt (bod Tryz.f167)))))=1:=by kernel_rfl
 have k3:isReg (lft (rgt (rgt (rgt (rgt (bod Tryz.f167))))))=true:=by kernel_rfl
 have k4:clOf (regOps (lft (rgt (rgt (rgt (rgt (bod Tryz.f167)))))))[1]? = some (some 32,231,#[.tmp 31]):=by kernel_rfl
 have k5:(Tryz.f231.name == "runtime.NumGoroutine")=false:=by kernel_rfl
 have k6:Tryz.f231.body.isNone=false:=by kernel_rfl
 refine Dv.seqP k1 ?_
 obtain⟨id,k7⟩:=regP k3
 rw[k7]
 refine Dv.mut prim_ok (na:=(⟨0,fun G=>G=G0⟩:Nb)) rfl 1 [1,2] [(4,.sl (flat tmCells l.reverse) l.length .no)] (.tup []) (spB2 j ls x _ vs o) ObsOk.nil k4 Tryz.func231 k5 k6 ?_ ?_ (fun i=>spB3 j i ls l x _ vs o) ObsOk.nil ?_
 ·intro i X hm hX
  have:i=1∨i=2:=by simpa using any_beq.1 hm
  rcases this with rfl|rfl
  ·cases hX;exact zlit
  ·cases hX;exact hlit
 ·intro G1 W hB' G w hE hR u hu
  have e:=hB'.κ
  subst e
  refine(rev_call (l:=ls) hR (by rfl) (by omega) hu).mono ?_
  rintro e w' ⟨v,b,S,e1,e2,e3,e4,e5,e6,e7⟩
  refine⟨v,b,S,e1,e2,e3,e4,e5,fun G' hE' hK' hS=>⟨by subst e6;simp only[V];exact⟨[],rfl,by simp only[VL]⟩,?_⟩⟩
  intro p hp u' hu'
  have hp':=List.mem_singleton.1 hp
  subst hp'
  have:=e7 G' hS _ (VL.later hB' hE' hK' (VL.rev l ls hl hlen)) u' hu'
  rw[hlen]at this
  exact this
 ·intro i
  exact kfin_ok (na:=(⟨0,fun G=>G=G0⟩:Nb)) prim_ok mixed (spB4 j i l x vs o) (ObsOk.cons (obData (dVals vs)) (ObsOk.cons (obData (dT _)) ObsOk.nil)) (by decide)
theorem apC22{l m r:List L3}(h:gapp 40 l m=some r)(hm:m.length≠0):Ob.ok Tryz.prog (.app 23 23 (flat c3 l) (flat c3 m) (flat c3 r) l.length m.length r.length 3 false):=app_some codec3 Tryz.underlying23 info25 rfl rfl rfl (by decide) rfl (by decide) h hm
theorem g135_exit{p0 x:Tm}{l:List Tm}{r:Tm×List Tm}(h:g167L0 p0 x l=some r)(hx:¬((x.k==5)=true∧x.sub.length=2)):r=(x,l.reverse):=by
 obtain⟨k,n,sub⟩:=x
 unfold g167L0 at h
 split at h
 ·rename_i k' n' a b e
  cases e
  split at h
  ·rename_i hk
   exact(hx ⟨hk,rfl⟩).elim
  ·cases h;rfl
 ·cases h;rfl
theorem spine_loop{p0:Tm}{q0:Option Addr×Nat×Nat}{G0:Gh}(hB:Base (⟨0,fun G=>G=G0⟩:Nb) G0)(h0:VL G0 G0.w0 (tmL p0) (sv p0 q0)):∀(N:Nat) (x:Tm) (l:List Tm) (r:Tm×List Tm) (hN:SizeOf.sizeOf x≤N) (h:g167L0 p0 x l=some r) (h8:l.length≤8192) (q:Option Addr×Nat×Nat) (ls:List L3)
  (hx:VL G0 G0.w0 (tmL x) (sv x q)) (hl:VL G0 G0.w0 (flat tmCells l) (vals ls)) (hlen:ls.length=l.length),∃res,Good G0 res r∧∀j:Nat->Value,Dl Tryz.prog (⟨0,fun G=>G=G0⟩:Nb) (inn (inn (lft (rgt (rgt (rgt (bod Tryz.f167))))))) [.val (j 0),.mp 0 0,.mp 1 0,.val (j 3),.sl (flat c3 ls) ls.length (.st 0 3),.mp 2 0,.val (j 6),.val (j 7),.val (j 8),.val (j 9),.val (j 10),.val (j 11),.val (j 12),.val (j 13),.val (j 14),.val (j 15),.val (j 16),.val (j 17),.val (j 18),.val (j 19),.val (j 20),.val (j 21),.val (j 22),.val (j 23),.val (j 24),.val (j 25),.val (j 26),.val (j 27),.val (j 28),.val (j 29),.val (j 30),.val (j 31),.val (j 32),.val (j 33),.val (j 34)] ⟨[(0,.cells [.val (.int .i64 p0.k),.val (.int .i64 p0.n),.val (.slice q0.1 q0.2.1 q0.2.2)]),(1,.cells [ai 0,ai 0,.sl [] 0 .nl]),(2,.cells [.val (.int .i64 x.k),.val (.int .i64 x.n),.val (.slice q.1 q.2.1 q.2.2)])],3,[0],1,[]⟩ (frameQ Tryz.prog (⟨0,fun G=>G=G0⟩:Nb) (FinQ Tryz.prog (⟨0,fun G=>G=G0⟩:Nb) Tryz.f167 res [] 0) [.blk 0,.seq (rgt (rgt (rgt (rgt (bod Tryz.f167)))))]):=by
 intro N
 induction N with
 |zero=>
  intro x l r hN
  obtain⟨k,n,sub⟩:=x
  simp at hN
 |succ N spine_ih=>
 intro x l r hN h h8 q ls hx hl hlen
 obtain⟨vs,o,v1,v2,v3⟩:=open_tm hB hx
 have hopen:∀ {res:AV} (j:Nat->Value),Dl Tryz.prog (⟨0,fun G=>G=G0⟩:Nb) (inn (inn (lft (rgt (rgt (rgt (bod Tryz.f167))))))) [.val (j 0),.mp 0 0,.mp 1 0,.val (j 3),.sl (flat c3 ls) ls.length (.st 0 3),.mp 2 0,.val (j 6),.val (j 7),.val (j 8),.val (j 9),.val (j 10),.val (j 11),.val (j 12),.val (j 13),.val (j 14),.val (j 15),.val (j 16),.val (j 17),.val (j 18),.val (j 19),.val (j 20),.val (j 21),.val (j 22),.val (j 23),.val (j 24),.val (j 25),.val (j 26),.val (j 27),.val (j 28),.val (j 29),.val (j 30),.val (j 31),.val (j 32),.val (j 33),.val (j 34)] ⟨[(0,.cells [.val (.int .i64 p0.k),.val (.int .i64 p0.n),.val (.slice q0.1 q0.2.1 q0.2.2)]),(1,.cells [ai 0,ai 0,.sl [] 0 .nl]),(2,.cells [ai x.k,ai x.n,.sl (vs.map .val) x.sub.length o])],3,[0],1,[]⟩ (frameQ Tryz.prog (⟨0,fun G=>G=G0⟩:Nb) (FinQ Tryz.prog (⟨0,fun G=>G=G0⟩:Nb) Tryz.f167 res [] 0) [.blk 0,.seq (rgt (rgt (rgt (rgt (bod Tryz.f167)))))])->Dl Tryz.prog (⟨0,fun G=>G=G0⟩:Nb) (inn (inn (lft (rgt (rgt (rgt (bod Tryz.f167))))))) [.val (j 0),.mp 0 0,.mp 1 0,.val (j 3),.sl (flat c3 ls) ls.length (.st 0 3),.mp 2 0,.val (j 6),.val (j 7),.val (j 8),.val (j 9),.val (j 10),.val (j 11),.val (j 12),.val (j 13),.val (j 14),.val (j 15),.val (j 16),.val (j 17),.val (j 18),.val (j 19),.val (j 20),.val (j 21),.val (j 22),.val (j 23),.val (j 24),.val (j 25),.val (j 26),.val (j 27),.val (j 28),.val (j 29),.val (j 30),.val (j 31),.val (j 32),.val (j 33),.val (j 34)] ⟨[(0,.cells [.val (.int .i64 p0.k),.val (.int .i64 p0.n),.val (.slice q0.1 q0.2.1 q0.2.2)]),(1,.cells [ai 0,ai 0,.sl [] 0 .nl]),(2,.cells [.val (.int .i64 x.k),.val (.int .i64 x.n),.val (.slice q.1 q.2.1 q.2.2)])],3,[0],1,[]⟩ (frameQ Tryz.prog (⟨0,fun G=>G=G0⟩:Nb) (FinQ Tryz.prog (⟨0,fun G=>G=G0⟩:Nb) Tryz.f167 res [] 0) [.blk 0,.seq (rgt (rgt (rgt (rgt (bod Tryz.f167)))))]):=by
  intro res j hd
  refine Dl.openB (b:=2) (cs:=[.val (.int .i64 x.k),.val (.int .i64 x.n),.val (.slice q.1 q.2.1 q.2.2)]) (cs':=[ai x.k,ai x.n,.sl (vs.map .val) x.sub.length o]) rfl (fun G1 W hB' G w hE hK us hus=>?_) hd
  have e:=hB'.κ
  subst e
  have hu:us=sv x q:=VL.litEq (sv x q) us hus
  subst hu
  exact VL.later hB' hE hK v2
 by_cases hk:(x.k==5)=true
 ·by_cases h2:x.sub.length=2
  ·obtain⟨k,n,sub⟩:=x
   match sub,h2 with
   | [a,b],_=>
   rw[g167L0]at h
   replace h:=ifT hk h
   rcases bcases (decide ((List.length l:Int)≥8192))with h3|h3
   ·replace h:=ifT h3 h
    cases h
    exact⟨_,good_long hB h0,fun j=>hopen j (Dl.toFin (na:=(⟨0,fun G=>G=G0⟩:Nb)) prim_ok mixed 3000 _ _ _ _ _ (spC j p0 q0 ls (.mk k n [a,b]) vs o) (ObsOk.cons (obBit hk) (ObsOk.cons (obBit rfl) (ObsOk.cons (obBit (by rw[hlen];exact h3)) (ObsOk.cons (obData trivial) ObsOk.nil)))) (by decide))⟩
   ·replace h:=ifF h3 h
    obtain⟨l2,hg,h⟩:=obind h
    obtain⟨hg1,rfl⟩:=gapp_spec hg
    have w1:VL G0 G0.w0 (tmCells a++(tmCells b++[])) vs:=v1
    obtain⟨ua,u2,rfl,wa,w2⟩:=VL.split _ _ _ w1
    obtain⟨ub,u3,rfl,wb,w3⟩:=VL.split _ _ _ w2
    have e3:u3=[]:=by
     have:=VL.length _ _ w3
     exact List.length_eq_zero_iff.1 this
    subst e3
    rw[tm_eq]at wa wb
    obtain⟨qa,rfl⟩:=sv_of wa
    obtain⟨qb,rfl⟩:=sv_of wb
    have h3':List.length l<8192:=by
     have:=of_decide_eq_false h3
     omega
    have hl2:VL G0 G0.w0 (flat tmCells (l++[b])) (vals (ls++[sv3 b qb])):=by
     simp only[flat,vals,List.flatMap_append,List.flatMap_cons,List.flatMap_nil,List.append_nil]
     refine VL.append _ _ _ _ hl ?_
     rw[tm_eq];exact wb
    have hga:gapp 40 ls [sv3 b qb]=some (ls++[sv3 b qb]):=by
     unfold gapp
     rw[if_pos]
     simp only[List.length_cons,List.length_nil]at hg1 ⊢
     rw[hlen];exact hg1
    obtain⟨res,hgood,hdl⟩:=spine_ih a (l++[b]) r (by simp at hN;omega) h (by simp;omega) qa (ls++[sv3 b qb]) wa hl2 (by simp[hlen])
    refine⟨res,hgood,fun j=>hopen j (Dl.toHead (na:=(⟨0,fun G=>G=G0⟩:Nb)) prim_ok mixed 3000 _ _ _ _ _ (fun i=>spD i j k n a b qa qb _ _ _ ls (ls++[sv3 b qb]) o) ?_ fun i=>hdl i)⟩
    exact ObsOk.cons (obBit hk) (ObsOk.cons (obBit rfl) (ObsOk.cons (obBit (by rw[hlen];exact h3)) (ObsOk.cons (apC22 (m:=[sv3 b qb]) hga (by simp)) (ObsOk.cons (obData trivial) (ObsOk.cons (obData (flat_data codec3.data _)) ObsOk.nil)))))
  ·have hr:=g135_exit h (fun e=>h2 e.2)
   subst hr
   refine⟨.tup [.agg [ai x.k,ai x.n,.sl (vs.map .val) x.sub.length .no],.sl (flat tmCells l.reverse) l.length .no],good_exit hB v1,fun j=>hopen j (Dl.step ?_)⟩
   have hx1:=spBX (G0:=G0) (p0:=p0) (q0:=q0) j v3 hl hlen h8
   refine krun_ok (Q:=_) prim_ok mixed 3000 (.run (inn (inn (lft (rgt (rgt (rgt (bod Tryz.f167)))))))) [] _ _ _ _ _ _ _ _ (spB1 j ls x _ vs o) (ObsOk.cons (obBit hk) (ObsOk.cons (obBit (by simp;omega)) ObsOk.nil)) ?_
   simp only[KQ,seqQ,frameQ,blockQ,if_true]
   exact hx1
 ·have hr:=g135_exit h (fun e=>hk e.1)
  subst hr
  ·refine⟨.tup [.agg [ai x.k,ai x.n,.sl (vs.map .val) x.sub.length .no],.sl (flat tmCells l.reverse) l.length .no],good_exit hB v1,fun j=>hopen j (Dl.step ?_)⟩
   have hx1:=spAX (G0:=G0) (p0:=p0) (q0:=q0) j v3 hl hlen h8
   refine krun_ok (Q:=_) prim_ok mixed 3000 (.run (inn (inn (lft (rgt (rgt (rgt (bod Tryz.f167)))))))) [] _ _ _ _ _ _ _ _ (spA1 j ls x _ vs o) (ObsOk.cons (obBit (by simpa using hk)) ObsOk.nil) ?_
   simp only[KQ,seqQ,frameQ,blockQ,if_true]
   exact hx1
theorem c167g{p0:Tm}{r:Tm×List Tm}(h:g167 p0=some r):CT Tryz.prog 167 [] [tmA p0] (.tup [tmA r.1,.sl (flat tmCells r.2) (List.length r.2) .no]) [] 0:=by
 refine⟨?_,⟨⟨trivial,trivial,⟨trivial,dT _⟩,trivial⟩,trivial⟩,(fun _ h=>nomatch h),⟨⟨trivial,trivial,dT _,trivial⟩,dT _,trivial⟩,(fun _ h=>nomatch h)⟩
 intro G0 W cargs hB hR hv
 cases hc:cargs.toList with
 |nil=>rw[hc]at hv;simp only[VL]at hv
 |cons u us=>
  rw[hc]at hv
  simp only[VL]at hv
  obtain⟨hu,hus⟩:=hv
  have hus':us=[]:=by
   have:=VL.length _ _ hus
   exact List.length_eq_zero_iff.1 this
  subst hus'
  simp only[tmA,V]at hu
  obtain⟨ws,rfl,hws⟩:=hu
  obtain⟨q0,rfl⟩:=sv_of hws
  have hBK:Base (⟨0,fun G=>G=G0⟩:Nb) G0:=⟨hB.ρ,hB.τ,hB.LF,rfl⟩
  have h0:=VL.back hB hR hws
  obtain⟨res,hgood,hdl⟩:=spine_loop hBK h0 _ p0 [] r (Nat.le_refl _) h (by simp) q0 [] h0 (by simp[flat,vals,VL]) rfl
  have hv2:VL G0 W [.agg [.val (.int .i64 p0.k),.val (.int .i64 p0.n),.val (.slice q0.1 q0.2.1 q0.2.2)]] cargs.toList:=by
   rw[hc]
   simp only[VL,V,and_true]
   exact⟨sv p0 q0,rfl,VL.lits (sv p0 q0)⟩
  have hb:=body_at (na:=(⟨0,fun G=>G=G0⟩:Nb)) (res:=res) (H1:=[]) (nst:=0) rfl Tryz.func167 (by kernel_rfl) (khead_ok (na:=(⟨0,fun G=>G=G0⟩:Nb)) (m:=.run (bod Tryz.f167)) (fs:=[]) prim_ok mixed (fun i=>spE i p0.k p0.n q0) (ObsOk.cons (obData trivial) (ObsOk.cons (obData trivial) ObsOk.nil)) fun i=>hdl i) hBK hR hv2
  refine hb.mono ?_
  rintro e W' ⟨u,G',s',rfl,hE,hR',hu,h1,h2⟩
  exact⟨u,G',s',rfl,hE,hR',hgood W G' W' hE hR'.below u hu,h1,h2⟩
def e167(_qq:Nat)(p0:Tm):Option (Tm×List Tm):=g167 p0
theorem c167{qq:Nat}{p0:Tm}{r:Tm×List Tm}(h:e167 qq p0=some r):CT Tryz.prog 167 [] [tmA p0] (.tup [tmA r.1,.sl (flat tmCells r.2) (List.length r.2) .no]) [] 0:=c167g h
theorem tm_eta(t:Tm):Tm.mk t.k t.n t.sub=t:=by cases t;rfl
theorem take_drop_next{α:Type}{l:List α}{v:Nat}{x:α}{r:List α}(h:l.drop v=x::r):l.take (v+1)=l.take v++[x]:=by
 have:l[v]? = some x:=by
  have:=congrArg (fun z=>z[0]?) h
  simpa using this
 rw[List.take_add_one,this];rfl
mutual
theorem ev_cloned:∀(t:Tm),goodT t=true->Evt (fun q=>e189 q t) t
 | .mk k n l,hg=>by
  refine Evt.succ ?_
  simp only[e189]
  have hh:=goodT_mk hg
  exact ev_clonedL l (.mk k n l) 0 [] rfl hh.2 (by have:=(head_n hh.1).2.2.2.2;exact this) rfl
theorem ev_clonedL:∀(l:List Tm) (p:Tm) (v:Nat) (acc:List Tm),p.sub.drop v=l->goodL l=true->p.sub.length≤2->acc=p.sub.take v->Evt (fun q=>e189Laf q p (v:Int) acc) p
 | [],p,v,acc,hd,hg,hl,ha=>by
  refine Evt.succ ?_
  simp only[e189Laf]
  refine Evt.ifF (drop_nil hd) (Evt.ret.eq ?_)
  have:p.sub.length≤v:=List.drop_eq_nil_iff.1 hd
  rw[ha,List.take_of_length_le this,tm_eta]
 |t::l,p,v,acc,hd,hg,hl,ha=>by
  have hlt:=drop_lt hd
  have hc:=goodL_cons hg
  refine Evt.succ ?_
  simp only[e189Laf]
  refine Evt.ifT (drop_dec hd) (Evt.pure (drop_idx hd) ((ev_cloned t hc.1).bind (Evt.pure (gapp_ok (by rw[ha];simp<;>omega)) ?_)))
  rw[w64_nat v (by omega)]
  exact ev_clonedL l p (v+1) _ (drop_next hd) hc.2 hl (by rw[ha,take_drop_next hd])
end
def copT(t:Tm):Tm:=if shapedT t=true then t else .mk 0 0 []
theorem ev_Copy(t:Tm)(ho:t.Ok):Evt (fun q=>e123 q t) (copT t):=by
 simp only[e123]
 refine(ev_Shaped t ho).bind ?_
 unfold copT
 by_cases h:shapedT t=true
 ·rw[if_pos h];exact Evt.ifT h ((ev_cloned t (shapedT_spec h).2.2).bind Evt.ret)
 ·rw[if_neg h];exact Evt.ifF (by simpa using h) Evt.ret
def hdT:Tm->Tm
 | .mk k n [a,b]=>if k=5 then hdT a else .mk k n [a,b]
 |x=>x
def arT:Tm->List Tm
 | .mk k _ [a,b]=>if k=5 then arT a++[b]else []
 |_=>[]
theorem sub2{l:List Tm}(h:l.length=2):∃a b,l=[a,b]:=by
 rcases l with _|⟨a,_|⟨b,_|⟨c,l⟩⟩⟩<;>simp at h
 exact⟨a,b,rfl⟩
theorem hdT_app(n:Int)(a b:Tm):hdT (.mk 5 n [a,b])=hdT a:=by rw[hdT];simp
theorem arT_app(n:Int)(a b:Tm):arT (.mk 5 n [a,b])=arT a++[b]:=by rw[arT];simp
theorem hdT_not{t:Tm}(h:t.k≠5):hdT t=t:=by
 unfold hdT
 split
 ·exact if_neg h
 ·rfl
theorem arT_not{t:Tm}(h:t.k≠5):arT t=[]:=by
 unfold arT
 split
 ·exact if_neg h
 ·rfl
theorem app_ind{P:Tm->Prop}(h0:∀t,goodT t=true->t.k≠5->P t)(h1:∀n a b,goodT (.mk 5 n [a,b])=true->goodT a=true->goodT b=true->P a->P (.mk 5 n [a,b])):∀t:Tm,goodT t=true->P t:=by
 intro t
 induction hn:t.nodes using Nat.strongRecOn generalizing t with
 |ind m ih=>
  intro hg
  by_cases h:t.k=5
  ·obtain⟨k,n,l⟩:=t
   have hh:=goodT_mk hg
   have hs:=head_spec hh.1
   simp only[Tm.k]at h
   subst h
   obtain⟨a,b,rfl⟩:=sub2 (hs.2.2.2.2.2.1 (.inr (.inr rfl))).1
   have hc:=goodL_cons hh.2
   have hc2:=goodL_cons hc.2
   refine h1 n a b hg hc.1 hc2.1 (ih a.nodes ?_ a rfl hc.1)
   rw[Tm.nodes,nodesL]at hn;omega
  ·exact h0 t hg h
theorem spine_eq(p0:Tm):∀t:Tm,goodT t=true->∀l:List Tm,l.length+t.nodes≤8192->g167L0 p0 t l=some (hdT t,arT t++l.reverse):=by
 refine app_ind ?_ ?_
 ·intro t hg hk l hl
  rw[hdT_not hk,arT_not hk]
  obtain⟨k,n,ls⟩:=t
  replace hk:¬k=5:=hk
  rcases ls with _|⟨a,_|⟨b,_|⟨c,ls⟩⟩⟩<;>unfold g167L0<;>simp[hk]
 ·intro n a b hg ha hb ih l hl
  rw[Tm.nodes,nodesL,nodesL,nodesL]at hl
  rw[hdT_app,arT_app]
  unfold g167L0
  rw[ifTe (show ((5:Int)==5)=true from rfl),ifFe (by simp<;>omega),gapp_ok (by simp<;>omega)]
  show g167L0 p0 a (l++[b])=_
  rw[ih (l++[b]) (by simp<;>omega)]
  simp
theorem ev_Spine(t:Tm)(hs:shapedT t=true):Evt (fun q=>e167 q t) (hdT t,arT t):=by
 refine Evt.mk fun q=>?_
 have h:=shapedT_spec hs
 show g167L0 t t []=_
 rw[spine_eq t t h.2.2 [] (by simpa using h.1)];simp
theorem hd_spec:∀t:Tm,goodT t=true->goodT (hdT t)=true∧(hdT t).k≠5∧(hdT t).nodes≤t.nodes∧(hdT t).high≤t.high∧∀x∈arT t,goodT x=true∧x.nodes<t.nodes∧x.high<t.high:=by
 refine app_ind ?_ ?_
 ·intro t hg hk
  rw[hdT_not hk,arT_not hk]
  exact⟨hg,hk,Nat.le_refl _,Nat.le_refl _,fun x hx=>by cases hx⟩
 ·intro n a b hg ha hb ih
  rw[hdT_app,arT_app]
  simp only[Tm.nodes,nodesL,Tm.high,highL]
  refine⟨ih.1,ih.2.1,by omega,by omega,fun x hx=>?_⟩
  rcases List.mem_append.1 hx with hx|hx
  ·have:=ih.2.2.2.2 x hx;exact⟨this.1,by omega,by omega⟩
  ·simp at hx;subst hx;exact⟨hb,by omega,by omega⟩
theorem shapedT_of{t:Tm}(h1:t.nodes≤8192)(h2:t.high≤128)(h3:goodT t=true):shapedT t=true:=by
 unfold shapedT;simp[h1,h2,h3]
theorem ar_shaped{t x:Tm}(h:shapedT t=true)(hx:x∈arT t):shapedT x=true:=by
 have hs:=shapedT_spec h
 have:=(hd_spec t hs.2.2).2.2.2.2 x hx
 exact shapedT_of (by omega) (by omega) this.1
theorem hd_shaped{t:Tm}(h:shapedT t=true):shapedT (hdT t)=true:=by
 have hs:=shapedT_spec h
 have:=hd_spec t hs.2.2
 exact shapedT_of (by omega) (by omega) this.1
theorem ar_len:∀t:Tm,goodT t=true->(arT t).length<t.nodes:=by
 refine app_ind ?_ ?_
 ·intro t hg hk
  rw[arT_not hk];have:=nodes_pos t;simp;omega
 ·intro n a b hg ha hb ih
  rw[arT_app,Tm.nodes,nodesL,nodesL,nodesL];simp;omega
def apT(f:Tm):List Tm->Tm
 | []=>f
 |a::l=>apT (.mk 5 0 [f,a]) l
theorem ev_App(f a:Tm):Evt (fun q=>e156 q f a) (.mk 5 0 [f,a]):=Evt.mk fun _=>rfl
theorem ev_ApplyL:∀(l p:List Tm) (v:Nat) (f:Tm),p.drop v=l->p.length<9223372036854775808->Evt (fun q=>e151Lag q p (v:Int) f.k f.n f.sub) (apT f l)
 | [],p,v,f,hd,hl=>by
  refine Evt.succ ?_
  simp only[e151Lag]
  exact Evt.ifF (drop_nil hd) (Evt.ret.eq (by rw[tm_eta,apT]))
 |a::l,p,v,f,hd,hl=>by
  have hlt:=drop_lt hd
  refine Evt.succ ?_
  simp only[e151Lag]
  rw[tm_eta]
  refine Evt.ifT (drop_dec hd) (Evt.pure (drop_idx hd) ((ev_App f a).bind ?_))
  rw[w64_nat v (by omega),apT]
  exact ev_ApplyL l p (v+1) (.mk 5 0 [f,a]) (drop_next hd) hl
theorem ev_Apply(f:Tm)(l:List Tm)(h:l.length<9223372036854775808):Evt (fun q=>e151 q f l) (apT f l):=by
 simp only[e151]
 exact ev_ApplyL l l 0 f rfl h
def e149(qq:Nat)(p0:Int):Option (Tm):=
 e219 qq 1 p0 []>>=fun r1=>
 some r1
abbrev K149 (p0:Int) (r:Tm) (C:Cf):Prop:=C 149 [] [ai p0] (tmA r) [] 0
theorem q149:Qf 149 Tryz.f149:=⟨Tryz.func149,by kernel_rfl⟩
theorem k149{p0 r}(h:K149 p0 r Ci):K149 p0 r Ct:=⟨h,⟨tv,tv⟩,forall_nil,⟨tv,tv,dT _,tv⟩,forall_nil⟩
theorem c149{qq p0 r}(h:e149 qq p0=some r):K149 p0 r Ct:=by
 unfold e149 at h
 obtain⟨r1,h2,h⟩:=obind h
 obtain rfl:=sj h
 exact k149 (tF q149 1 [] (oD (dT r1.sub)<|oC 0 [] (c219 h2) o0))
def e212(qq:Nat)(p0:Int):Option (Tm):=
 e219 qq 2 p0 []>>=fun r1=>
 some r1
abbrev K212 (p0:Int) (r:Tm) (C:Cf):Prop:=C 212 [] [ai p0] (tmA r) [] 0
theorem q212:Qf 212 Tryz.f212:=⟨Tryz.func212,by kernel_rfl⟩
theorem k212{p0 r}(h:K212 p0 r Ci):K212 p0 r Ct:=⟨h,⟨tv,tv⟩,forall_nil,⟨tv,tv,dT _,tv⟩,forall_nil⟩
theorem c212{qq p0 r}(h:e212 qq p0=some r):K212 p0 r Ct:=by
 unfold e212 at h
 obtain⟨r1,h2,h⟩:=obind h
 obtain rfl:=sj h
 exact k212 (tF q212 1 [] (oD (dT r1.sub)<|oC 0 [] (c219 h2) o0))
def e317(qq:Nat)(p0:Int):Option (Bool):=
 if decide (p0≥0)then
 some (decide (p0≤1048576))
 else
 some false
abbrev K317 (p0:Int) (r:Bool) (C:Cf):Prop:=C 317 [] [ai p0] (ab r) [] 0
theorem q317:Qf 317 Tryz.f317:=⟨Tryz.func317,by kernel_rfl⟩
theorem k317{p0 r}(h:K317 p0 r Ci):K317 p0 r Ct:=⟨h,⟨tv,tv⟩,forall_nil,tv,forall_nil⟩
theorem c317{qq p0 r}(h:e317 qq p0=some r):K317 p0 r Ct:=by
 unfold e317 at h
 rcases spl h with⟨h1,h⟩|⟨h1,h⟩
 obtain rfl:=sj h
 exact k317 (tF q317 1 [] (oB 0 h1 o0))
 obtain rfl:=sj h
 exact k317 (tF q317 0 [] (oB 0 h1 o0))
def e319vaah(qq:Nat)(p0 q1 q2:Int):Option (Int):=
 if decide (p0<q1)then
 some p0
 else
 some (w64 (p0+q2))
abbrev K319vaah (p0 q1 q2 r:Int) (C:Cf):Prop:=C 319 [.cells [ai q1],.cells [ai q2]] [ai p0,.mp 0 0,.mp 1 0] (ai r) [.cells [ai q1],.cells [ai q2]] 0
theorem q319vaah:Qf 319 Tryz.f319:=⟨Tryz.func319,by kernel_rfl⟩
theorem k319vaah{p0 q1 q2 r}(h:K319vaah p0 q1 q2 r Ci):K319vaah p0 q1 q2 r Ct:=⟨h,⟨tv,(lz rfl),(lz rfl),tv⟩,(forall_cons ⟨tv,tv⟩ (forall_cons ⟨tv,tv⟩ forall_nil)),tv,(forall_cons ⟨tv,tv⟩ (forall_cons ⟨tv,tv⟩ forall_nil))⟩
theorem c319vaah{qq p0 q1 q2 r}(h:e319vaah qq p0 q1 q2=some r):K319vaah p0 q1 q2 r Ct:=by
 unfold e319vaah at h
 rcases spl h with⟨h1,h⟩|⟨h1,h⟩
 obtain rfl:=sj h
 exact k319vaah (tF q319vaah 0 [0,1] (oB 1 h1 o0))
 obtain rfl:=sj h
 exact k319vaah (tF q319vaah 2 [0,1] (oB 1 h1 o0))
mutual
def e318vaai:Nat->Tm->Int->Int->Int->Option (Tm)
 |0,_,_,_,_=>none
 |qq+1,p0,p1,q2,q3=>
 if p0.k==1 then
 if decide (p0.n≥p1)then
 e319vaah qq (w64 (p0.n-p1)) q2 q3>>=fun r3=>
 e149 qq (w64 (r3+p1))>>=fun r5=>
 some r5
 else
 e149 qq p0.n>>=fun r7=>
 some r7
 else
 e318vaaiLaj qq p0 p1 q2 q3 0 []
def e318vaaiLaj:Nat->Tm->Int->Int->Int->Int->(List Tm)->Option (Tm)
 |0,_,_,_,_,_,_=>none
 |qq+1,p0,p1,q2,q3,v38,vb4_2=>
 if decide (v38<(List.length p0.sub:Int))then
 gidx p0.sub v38>>=fun x10=>
 if v38==1 then
 if p0.k != 5 then
 e318vaai qq x10 (w64 (p1+1)) q2 q3>>=fun r14=>
 gapp 40 vb4_2 [r14]>>=fun l16=>
 e318vaaiLaj qq p0 p1 q2 q3 (w64 (v38+1)) l16
 else
 e318vaai qq x10 p1 q2 q3>>=fun r18=>
 gapp 40 vb4_2 [r18]>>=fun l20=>
 e318vaaiLaj qq p0 p1 q2 q3 (w64 (v38+1)) l20
 else
 e318vaai qq x10 p1 q2 q3>>=fun r22=>
 gapp 40 vb4_2 [r22]>>=fun l24=>
 e318vaaiLaj qq p0 p1 q2 q3 (w64 (v38+1)) l24
 else
 some (Tm.mk p0.k p0.n vb4_2)
end
def g318vaaiLajE0(j:Nat->Value)(p0:Tm)(p1 q2 q3 v38:Int)(vb4_2:List Tm):=sp j 64 0 [(1,ai p1),(2,.clo 319 [] [.mp 0 0,.mp 1 0]),(3,.mp 2 0),(6,.mp 3 0),(7,.mp 4 0),(36,slv tmCells p0.sub .no),(37,ai (List.length p0.sub:Int)),(38,ai v38)]
def g318vaaiLajS0(p0:Tm)(p1 q2 q3 v38:Int)(vb4_2:List Tm):LSt:=⟨[(0,.cells [ai q2]),(1,.cells [ai q3]),(2,.cells [ai p0.k,ai p0.n,slv tmCells p0.sub .no]),(3,.cells [ai 0,ai 0,slv tmCells ([]:List Tm) .nl]),(4,.cells [ai p0.k,ai p0.n,slv tmCells vb4_2 (.st 0 3)])],5,[0],1,[]⟩
abbrev K318vaai (p0:Tm) (p1 q2 q3:Int) (r:Tm) (C:Cf):Prop:=C 318 [.cells [ai q2],.cells [ai q3]] [tmA p0,ai p1,.clo 319 [] [.mp 0 0,.mp 1 0]] (tmA r) [.cells [ai q2],.cells [ai q3]] 0
theorem q318vaai:Qf 318 Tryz.f318:=⟨Tryz.func318,by kernel_rfl⟩
theorem k318vaai{p0 p1 q2 q3 r}(h:K318vaai p0 p1 q2 q3 r Ci):K318vaai p0 p1 q2 q3 r Ct:=⟨h,⟨⟨tv,tv,⟨tv,dT _⟩,tv⟩,tv,⟨tv,⟨(lz rfl),(lz rfl),tv⟩⟩,tv⟩,(forall_cons ⟨tv,tv⟩ (forall_cons ⟨tv,tv⟩ forall_nil)),⟨tv,tv,dT _,tv⟩,(forall_cons ⟨tv,tv⟩ (forall_cons ⟨tv,tv⟩ forall_nil))⟩
theorem a318vaai_318vaaiLaj:∀qq:Nat,(∀p0 p1 q2 q3 r,e318vaai qq p0 p1 q2 q3=some r->K318vaai p0 p1 q2 q3 r Ct)∧(∀p0 p1 q2 q3 v38 vb4_2 r,e318vaaiLaj qq p0 p1 q2 q3 v38 vb4_2=some r->(∀j,Dl Tryz.prog 2 (inn (inn (rgt (lft (rgt (rgt (rgt (bod Tryz.f318)))))))) (g318vaaiLajE0 j p0 p1 q2 q3 v38 vb4_2) (g318vaaiLajS0 p0 p1 q2 q3 v38 vb4_2) (frameQ Tryz.prog 2 (FinQ Tryz.prog 2 Tryz.f318 (tmA r) [.cells [ai q2],.cells [ai q3]] 0) [.blk 0,.seq (rgt (rgt (rgt (rgt (bod Tryz.f318)))))]))):=by
 intro qq
 induction qq with
 |zero=>
  exact⟨fun _ _ _ _ _ h=>nn h,fun _ _ _ _ _ _ _ h=>nn h⟩
 |succ qq ih=>
  obtain⟨ih318vaai,ih318vaaiLaj⟩:=ih
  refine⟨?_,?_⟩
  intro p0 p1 q2 q3 r h
  rw[e318vaai]at h
  rcases spl h with⟨h1,h⟩|⟨h1,h⟩
  have k:=oB 1 h1 o0
  rcases spl h with⟨h2,h⟩|⟨h2,h⟩
  obtain⟨r3,h4,h⟩:=obind h
  obtain⟨r5,h6,h⟩:=obind h
  obtain rfl:=sj h
  exact k318vaai (tF q318vaai 1 [0,1] (oD (dT r5.sub)<|oC 1 [] (c149 h6)<|oC 2 [0,1] (c319vaah h4)<|oB 1 h2 k))
  obtain⟨r7,h8,h⟩:=obind h
  obtain rfl:=sj h
  exact k318vaai (tF q318vaai 1 [0,1] (oD (dT r7.sub)<|oC 1 [] (c149 h8)<|oB 1 h2 k))
  exact k318vaai (tH q318vaai 5 [(some 4,2,3)] [0,1,2,3,4] [0] [1,2,3,6,7,36,37,38] (oD (dT p0.sub)<|oD (dT ([]:List Tm))<|oD (dT ([]:List Tm))<|oD (dT p0.sub)<|oB 1 h1 o0) (ih318vaaiLaj _ _ _ _ _ _ _ h))
  intro p0 p1 q2 q3 v38 vb4_2 r h
  rw[e318vaaiLaj]at h
  rcases spl h with⟨h9,h⟩|⟨h9,h⟩
  obtain⟨x10,h11,h⟩:=obind h
  have k:=oA 0 (ix23 (o:=.no) h11)<|oB 0 h9 o0
  rcases spl h with⟨h12,h⟩|⟨h12,h⟩
  have k:=oB 2 h12 k
  rcases spl h with⟨h13,h⟩|⟨h13,h⟩
  obtain⟨r14,h15,h⟩:=obind h
  obtain⟨l16,h17,h⟩:=obind h
  exact fun j=>lH 2 [] [0,1,2,3,4] [1] [1,2,3,6,7,36,37,38] (oD (dT p0.sub)<|oD (dT l16)<|oD (dT ([]:List Tm))<|oD (dT p0.sub)<|oP 0 (apS23 h17 (by simp))<|oS 0 (obLitR tm_eq [r14])<|oC 3 [0,1] (ih318vaai _ _ _ _ _ h15)<|oB 1 h13 k) (ih318vaaiLaj _ _ _ _ _ _ _ h)
  obtain⟨r18,h19,h⟩:=obind h
  obtain⟨l20,h21,h⟩:=obind h
  exact fun j=>lH 2 [] [0,1,2,3,4] [1] [1,2,3,6,7,36,37,38] (oD (dT p0.sub)<|oD (dT l20)<|oD (dT ([]:List Tm))<|oD (dT p0.sub)<|oP 0 (apS23 h21 (by simp))<|oS 0 (obLitR tm_eq [r18])<|oC 2 [0,1] (ih318vaai _ _ _ _ _ h19)<|oB 1 h13 k) (ih318vaaiLaj _ _ _ _ _ _ _ h)
  obtain⟨r22,h23,h⟩:=obind h
  obtain⟨l24,h25,h⟩:=obind h
  exact fun j=>lH 2 [] [0,1,2,3,4] [1] [1,2,3,6,7,36,37,38] (oD (dT p0.sub)<|oD (dT l24)<|oD (dT ([]:List Tm))<|oD (dT p0.sub)<|oP 0 (apS23 h25 (by simp))<|oS 0 (obLitR tm_eq [r22])<|oC 2 [0,1] (ih318vaai _ _ _ _ _ h23)<|oB 2 h12 k) (ih318vaaiLaj _ _ _ _ _ _ _ h)
  obtain rfl:=sj h
  exact fun j=>lF 2 [0,1] (oD (dT vb4_2)<|oB 0 h9 o0)
theorem c318vaai{qq p0 p1 q2 q3 r}(h:e318vaai qq p0 p1 q2 q3=some r):K318vaai p0 p1 q2 q3 r Ct:=(a318vaai_318vaaiLaj _).1 _ _ _ _ _ h
def e279(qq:Nat)(p0:Tm)(p1 p2:Int):Option (Tm×Int):=
 e89 qq p0>>=fun r1=>
 if r1 then
 e317 qq p1>>=fun r4=>
 if r4 then
 e317 qq p2>>=fun r7=>
 if r7 then
 e318vaai qq p0 0 p2 p1>>=fun r10=>
 e89 qq r10>>=fun r12=>
 if r12 then
 some (r10,0)
 else
 some ((Tm.mk 0 0 []),2)
 else
 some ((Tm.mk 0 0 []),5)
 else
 some ((Tm.mk 0 0 []),5)
 else
 some ((Tm.mk 0 0 []),5)
abbrev K279 (p0:Tm) (p1 p2:Int) (r:Tm×Int) (C:Cf):Prop:=C 279 [] [tmA p0,ai p1,ai p2] (.tup [tmA r.1,ai r.2]) [] 0
theorem q279:Qf 279 Tryz.f279:=⟨Tryz.func279,by kernel_rfl⟩
theorem k279{p0 p1 p2 r}(h:K279 p0 p1 p2 r Ci):K279 p0 p1 p2 r Ct:=⟨h,⟨⟨tv,tv,⟨tv,dT _⟩,tv⟩,tv,tv,tv⟩,forall_nil,⟨⟨tv,tv,dT _,tv⟩,tv,tv⟩,forall_nil⟩
theorem c279{qq p0 p1 p2 r}(h:e279 qq p0 p1 p2=some r):K279 p0 p1 p2 r Ct:=by
 unfold e279 at h
 obtain⟨r1,h2,h⟩:=obind h
 rcases spl h with⟨h3,h⟩|⟨h3,h⟩
 obtain⟨r4,h5,h⟩:=obind h
 have k:=oK 1 [] h3 (c89 h2) o0
 rcases spl h with⟨h6,h⟩|⟨h6,h⟩
 obtain⟨r7,h8,h⟩:=obind h
 have k:=oK 2 [] h6 (c317 h5) k
 rcases spl h with⟨h9,h⟩|⟨h9,h⟩
 obtain⟨r10,h11,h⟩:=obind h
 obtain⟨r12,h13,h⟩:=obind h
 have k:=oC 2 [2,1] (c318vaai h11)<|oK 2 [] h9 (c317 h8) k
 rcases spl h with⟨h14,h⟩|⟨h14,h⟩
 obtain rfl:=sj h
 exact k279 (tF q279 3 [] (oD (dT r10.sub)<|oK 2 [] h14 (c89 h13) k))
 obtain rfl:=sj h
 exact k279 (tF q279 2 [] (oD (dT ([]:List Tm))<|oK 2 [] h14 (c89 h13) k))
 obtain rfl:=sj h
 exact k279 (tF q279 2 [] (oD (dT ([]:List Tm))<|oK 2 [] h9 (c317 h8) k))
 obtain rfl:=sj h
 exact k279 (tF q279 2 [] (oD (dT ([]:List Tm))<|oK 2 [] h6 (c317 h5) k))
 obtain rfl:=sj h
 exact k279 (tF q279 2 [] (oD (dT ([]:List Tm))<|oK 1 [] h3 (c89 h2) o0))
def e278(qq:Nat)(p0:Tm)(p1:Int):Option (Tm×Int):=
 e279 qq p0 p1 0>>=fun r1=>
 some (r1.1,r1.2)
abbrev K278 (p0:Tm) (p1:Int) (r:Tm×Int) (C:Cf):Prop:=C 278 [] [tmA p0,ai p1] (.tup [tmA r.1,ai r.2]) [] 0
theorem q278:Qf 278 Tryz.f278:=⟨Tryz.func278,by kernel_rfl⟩
theorem k278{p0 p1 r}(h:K278 p0 p1 r Ci):K278 p0 p1 r Ct:=⟨h,⟨⟨tv,tv,⟨tv,dT _⟩,tv⟩,tv,tv⟩,forall_nil,⟨⟨tv,tv,dT _,tv⟩,tv,tv⟩,forall_nil⟩
theorem c278{qq p0 p1 r}(h:e278 qq p0 p1=some r):K278 p0 p1 r Ct:=by
 unfold e278 at h
 obtain⟨r1,h2,h⟩:=obind h
 obtain rfl:=sj h
 exact k278 (tF q278 3 [] (oD (dT r1.1.sub)<|oC 1 [] (c279 h2) o0))
def undR'(k:Int)(i:Nat)(b:Int):Int:=if i=1∧k≠5 then b+1 else b
mutual
def lfT:Tm->Int->Int->Int->Tm
 | .mk kd n l,b,c,k=>if kd=1 then .mk 1 (if b≤n then(if n-b<c then n-b else n-b+k)+b else n) []else .mk kd n (lfL l kd 0 b c k)
def lfL:List Tm->Int->Nat->Int->Int->Int->List Tm
 | [],_,_,_,_,_=>[]
 |t::l,kd,i,b,c,k=>lfT t (undR' kd i b) c k::lfL l kd (i+1) b c k
end
theorem lfL_len:∀(l:List Tm) (kd:Int) (i:Nat) (b c k:Int),(lfL l kd i b c k).length=l.length
 | [],_,_,_,_,_=>by rw[lfL]
 |t::l,kd,i,b,c,k=>by rw[lfL];exact congrArg (· + 1) (lfL_len l kd (i+1) b c k)
theorem ev_Var(n:Int):Evt (fun q=>e149 q n) (.mk 1 n []):=Evt.mk fun _=>rfl
theorem ev_Sort(n:Int):Evt (fun q=>e212 q n) (.mk 2 n []):=Evt.mk fun _=>rfl
mutual
theorem ev_walk:∀(t:Tm) (b c k:Int),goodT t=true->0≤b->b+t.high≤1152921504606846976->0≤c->c≤1048576->0≤k->k≤1048576->Evt (fun q=>e318vaai q t b c k) (lfT t b c k)
 | .mk kd n l,b,c,k,hg,hb,hb2,hc,hc2,hk,hk2=>by
  refine Evt.succ ?_
  simp only[e318vaai]
  have hh:=goodT_mk hg
  have hn:=head_n hh.1
  rw[Tm.high]at hb2
  rw[lfT]
  by_cases h1:kd=1
  ·rw[if_pos h1]
   refine Evt.ifT (by simpa[Tm.k]using h1) ?_
   simp only[Tm.n]
   by_cases h2:n≥b
   ·refine Evt.ifT (by simpa using h2) ?_
    rw[if_pos h2,w64_id (x:=n-b) (by omega) (by omega)]
    refine Evt.bind (a:=if n-b<c then n-b else n-b+k) ?_ ?_
    ·refine Evt.mk fun q=>?_
     unfold e319vaah
     by_cases h3:n-b<c
     ·simp[h3]
     ·simp[h3];exact w64_id (by omega) (by omega)
    ·rw[w64_id (by split<;>omega) (by split<;>omega)]
     exact(ev_Var _).bind Evt.ret
   ·refine Evt.ifF (by simpa using h2) ?_
    rw[if_neg h2]
    exact(ev_Var _).bind Evt.ret
  ·rw[if_neg h1]
   refine Evt.ifF (by simpa[Tm.k]using h1) ?_
   exact ev_walkL l (.mk kd n l) 0 b c k [] rfl hh.2 (by have:=hn.2.2.2.2;exact this) hb (by omega) hc hc2 hk hk2 (by simp)
theorem ev_walkL:∀(l:List Tm) (p:Tm) (v:Nat) (b c k:Int) (acc:List Tm),p.sub.drop v=l->goodL l=true->p.sub.length≤2->0≤b->b+1+highL l≤1152921504606846976->0≤c->c≤1048576->0≤k->k≤1048576->acc.length≤v ->
  Evt (fun q=>e318vaaiLaj q p b c k (v:Int) acc) (.mk p.k p.n (acc++lfL l p.k v b c k))
 | [],p,v,b,c,k,acc,hd,hg,hl,hb,hb2,hc,hc2,hk,hk2,ha=>by
  refine Evt.succ ?_
  simp only[e318vaaiLaj]
  exact Evt.ifF (drop_nil hd) (Evt.ret.eq (by rw[lfL];simp))
 |t::l,p,v,b,c,k,acc,hd,hg,hl,hb,hb2,hc,hc2,hk,hk2,ha=>by
  have hlt:=drop_lt hd
  have hgc:=goodL_cons hg
  rw[highL]at hb2
  refine Evt.succ ?_
  simp only[e318vaaiLaj]
  refine Evt.ifT (drop_dec hd) (Evt.pure (drop_idx hd) ?_)
  have next:∀(x:Tm),Evt (fun q=>gapp 40 acc [x]>>=fun l16=>e318vaaiLaj q p b c k (w64 ((v:Int)+1)) l16) (.mk p.k p.n (acc++x::lfL l p.k (v+1) b c k)):=fun x=>by
   refine Evt.pure (gapp_ok (by simp<;>omega)) ?_
   rw[w64_nat v (by omega)]
   refine(ev_walkL l p (v+1) b c k (acc++[x]) (drop_next hd) hgc.2 hl hb (by omega) hc hc2 hk hk2 (by simp<;>omega)).eq (by simp)
  rw[lfL]
  by_cases h1:v=1
  ·subst h1
   refine Evt.ifT rfl ?_
   by_cases h5:p.k=5
   ·refine Evt.ifF (by simp[h5]) ?_
    have e:undR' p.k 1 b=b:=by unfold undR';simp[h5]
    rw[e]
    exact(ev_walk t b c k hgc.1 hb (by omega) hc hc2 hk hk2).bind (next _)
   ·refine Evt.ifT (by simp[h5]) ?_
    have e:undR' p.k 1 b=b+1:=by unfold undR';simp[h5]
    rw[e,w64_id (x:=b+1) (by omega) (by omega)]
    exact(ev_walk t (b+1) c k hgc.1 (by omega) (by omega) hc hc2 hk hk2).bind (next _)
  ·refine Evt.ifF (by simp<;>omega) ?_
   have e:undR' p.k v b=b:=by unfold undR';simp[h1]
   rw[e]
   exact(ev_walk t b c k hgc.1 hb (by omega) hc hc2 hk hk2).bind (next _)
end
mutual
theorem lfT_ok:∀(t:Tm) (b c k:Int),t.Ok->(lfT t b c k).Ok
 | .mk kd n l,b,c,k,h=>by
  rw[lfT]
  split
  ·rw[Tm.Ok,OkL];simp
  ·rw[Tm.Ok]at h ⊢
   rw[lfL_len]
   exact⟨h.1,lfL_ok l kd 0 b c k h.2⟩
theorem lfL_ok:∀(l:List Tm) (kd:Int) (i:Nat) (b c k:Int),OkL l->OkL (lfL l kd i b c k)
 | [],_,_,_,_,_,_=>by rw[lfL,OkL];trivial
 |t::l,kd,i,b,c,k,h=>by
  rw[OkL]at h
  rw[lfL,OkL]
  exact⟨lfT_ok t _ c k h.1,lfL_ok l kd (i+1) b c k h.2⟩
end
def fitsT(n:Int):Bool:=decide (0≤n)&&decide (n≤1048576)
theorem ev_fits(n:Int):Evt (fun q=>e317 q n) (fitsT n):=by
 refine Evt.mk fun q=>?_
 unfold e317 fitsT
 by_cases h:n≥0
 ·rw[ifTe (decide_eq_true h)];simp[show 0≤n from h]
 ·rw[ifFe (decide_eq_false h)];simp[show ¬0≤n from h]
def zT:Tm:=.mk 0 0 []
def liftT(t:Tm)(k c:Int):Tm×Int:=
 if shapedT t=true∧fitsT k=true∧fitsT c=true then(if shapedT (lfT t 0 c k)=true then(lfT t 0 c k,0)else(zT,2))else(zT,5)
theorem ev_Lift(t:Tm)(k c:Int)(ho:t.Ok):Evt (fun q=>e279 q t k c) (liftT t k c):=by
 simp only[e279]
 refine(ev_Shaped t ho).bind ?_
 unfold liftT
 by_cases h1:shapedT t=true
 ·refine Evt.ifT h1 ((ev_fits k).bind ?_)
  by_cases h2:fitsT k=true
  ·refine Evt.ifT h2 ((ev_fits c).bind ?_)
   by_cases h3:fitsT c=true
   ·rw[if_pos ⟨h1,h2,h3⟩]
    have hs:=shapedT_spec h1
    have h2':=h2;have h3':=h3
    unfold fitsT at h2' h3'
    simp only[Bool.and_eq_true,decide_eq_true_eq]at h2' h3'
    refine Evt.ifT h3 ((ev_walk t 0 c k hs.2.2 (by omega) (by omega) h3'.1 h3'.2 h2'.1 h2'.2).bind ((ev_Shaped _ (lfT_ok t 0 c k ho)).bind ?_))
    by_cases h4:shapedT (lfT t 0 c k)=true
    ·rw[if_pos h4,if_pos h4];exact Evt.ret
    ·rw[if_neg h4,if_neg h4];exact Evt.ret
   ·rw[if_neg (fun h=>h3 h.2.2)];exact Evt.ifF (by simpa using h3) Evt.ret
  ·rw[if_neg (fun h=>h2 h.2.1)];exact Evt.ifF (by simpa using h2) Evt.ret
 ·rw[if_neg (fun h=>h1 h.1)];exact Evt.ifF (by simpa using h1) Evt.ret
theorem liftT_ok(t:Tm)(k c:Int)(ho:t.Ok):(liftT t k c).1.Ok:=by
 have hz:zT.Ok:=by unfold zT;rw[Tm.Ok,OkL];simp
 unfold liftT
 split
 ·split
  ·exact lfT_ok t 0 c k ho
  ·exact hz
 ·exact hz
theorem ev_Up(t:Tm)(k:Int)(ho:t.Ok):Evt (fun q=>e278 q t k) (liftT t k 0):=by
 simp only[e278]
 exact(ev_Lift t k 0 ho).bind Evt.ret
def raT(a:Tm)(by' left:Int)(long:Bool):Tm×Int×Bool:=
 if left-szT a 0<0 then(.mk 2 0 [],left-szT a 0,true)
 else if (liftT a by' 0).2≠0 then(.mk 2 0 [],left-szT a 0,true)else((liftT a by' 0).1,left-szT a 0,long)
mutual
def sbT(ls:List Tm):Tm->Int->Int->Bool->Tm×Int×Bool
 | .mk kd n l,b,left,long=>
  if long=true then(.mk 2 0 [],left,long)
  else if kd=1∧b≤n then
   (if h:(n-b).toNat<ls.length then raT (ls[(n-b).toNat]) b left long else(.mk 1 (n-ls.length) [],left,long))
  else
   let r:=sbL ls l kd 0 b (left-1) (decide (left-1<0))
   (.mk kd n r.1,r.2.1,r.2.2)
def sbL(ls:List Tm):List Tm->Int->Nat->Int->Int->Bool->List Tm×Int×Bool
 | [],_,_,_,left,long=>([],left,long)
 |t::l,kd,i,b,left,long=>
  let x:=sbT ls t (undR' kd i b) left long
  let r:=sbL ls l kd (i+1) b x.2.1 x.2.2
  (x.1::r.1,r.2.1,r.2.2)
end
def LeftOk(left:Int)(long:Bool):Prop:=-8193≤left∧left≤8192∧(long=false->0≤left)
theorem raT_left{a:Tm}{by' left:Int}(h:LeftOk left false):LeftOk (raT a by' left false).2.1 (raT a by' left false).2.2:=by
 have:=szT_b a 0 (by omega) (by omega)
 have h0:=h.2.2 rfl
 have h1:=h.2.1
 unfold raT LeftOk
 split
 ·exact⟨by simp only;omega,by simp only;omega,fun h=>by cases h⟩
 ·split
  ·exact⟨by simp only;omega,by simp only;omega,fun h=>by cases h⟩
  ·exact⟨by simp only;omega,by simp only;omega,fun _=>by simp only;omega⟩
def e246vaak(qq:Nat)(q0:Int)(q1:Bool)(q2:List Tm):Option (Unit):=
 some ()
abbrev K246vaak (q0:Int) (q1:Bool) (q2:List Tm) (C:Cf):Prop:=C 246 [.cells [ai q0,ab q1,.val .nilFunc],.cells [slv tmCells q2 .no]] [.mp 0 0,.mp 1 0] (.clo 247 [] [.mp 1 0,.mp 2 0]) [.cells [ai q0,ab q1,.val .nilFunc],.cells [slv tmCells q2 .no],.cells [.mp 0 0]] 0
theorem q246vaak:Qf 246 Tryz.f246:=⟨Tryz.func246,by kernel_rfl⟩
theorem k246vaak{q0 q1 q2}(h:K246vaak q0 q1 q2 Ci):K246vaak q0 q1 q2 Ct:=⟨h,⟨(lz rfl),(lz rfl),tv⟩,(forall_cons ⟨tv,tv,tv,tv⟩ (forall_cons ⟨⟨tv,dT _⟩,tv⟩ forall_nil)),⟨tv,⟨(lz rfl),(lz rfl),tv⟩⟩,(forall_cons ⟨tv,tv,tv,tv⟩ (forall_cons ⟨dT _,tv⟩ (forall_cons ⟨(lz rfl),tv⟩ forall_nil)))⟩
theorem c246vaak{qq q0 q1 q2 r}(h:e246vaak qq q0 q1 q2=some r):K246vaak q0 q1 q2 Ct:=by
 unfold e246vaak at h
 obtain rfl:=sj h
 exact k246vaak (tF q246vaak 0 [0,1,2] (oD (dT q2) o0))
def e248(qq:Nat)(p0:Tm)(p1:Int):Option (Int):=
 if p0.k != 1 then
 some (-1)
 else
 if decide (p0.n<p1)then
 some (-1)
 else
 some (w64 (p0.n-p1))
abbrev K248 (p0:Tm) (p1 r:Int) (C:Cf):Prop:=C 248 [] [tmA p0,ai p1] (ai r) [] 0
theorem q248:Qf 248 Tryz.f248:=⟨Tryz.func248,by kernel_rfl⟩
theorem k248{p0 p1 r}(h:K248 p0 p1 r Ci):K248 p0 p1 r Ct:=⟨h,⟨⟨tv,tv,⟨tv,dT _⟩,tv⟩,tv,tv⟩,forall_nil,tv,forall_nil⟩
theorem c248{qq p0 p1 r}(h:e248 qq p0 p1=some r):K248 p0 p1 r Ct:=by
 unfold e248 at h
 rcases spl h with⟨h1,h⟩|⟨h1,h⟩
 obtain rfl:=sj h
 exact k248 (tF q248 0 [] (oB 1 h1 o0))
 have k:=oB 1 h1 o0
 rcases spl h with⟨h2,h⟩|⟨h2,h⟩
 obtain rfl:=sj h
 exact k248 (tF q248 0 [] (oB 1 h2 k))
 obtain rfl:=sj h
 exact k248 (tF q248 2 [] (oB 1 h2 k))
def e249vaal(qq:Nat)(q0:Int)(q1:Bool)(q2:List Tm)(p1:Tm)(p2:Int):Option (Tm×Int×Bool):=
 e227 qq p1>>=fun r1=>
 if decide ((w64 (q0-r1))<0)then
 e212 qq 0>>=fun r4=>
 some (r4,(w64 (q0-r1)),true)
 else
 e278 qq p1 p2>>=fun r6=>
 if r6.2 != 0 then
 e212 qq 0>>=fun r9=>
 some (r9,(w64 (q0-r1)),true)
 else
 some (r6.1,(w64 (q0-r1)),q1)
abbrev K249vaal (q0:Int) (q1:Bool) (q2:List Tm) (p1:Tm) (p2:Int) (r:Tm×Int×Bool) (C:Cf):Prop:=C 249 [.cells [ai q0,ab q1,.clo 247 [] [.mp 1 0,.mp 2 0]],.cells [slv tmCells q2 .no],.cells [.mp 0 0]] [.mp 0 0,tmA p1,ai p2] (tmA r.1) [.cells [ai r.2.1,ab r.2.2,.clo 247 [] [.mp 1 0,.mp 2 0]],.cells [slv tmCells q2 .no],.cells [.mp 0 0]] 0
theorem q249vaal:Qf 249 Tryz.f249:=⟨Tryz.func249,by kernel_rfl⟩
theorem k249vaal{q0 q1 q2 p1 p2 r}(h:K249vaal q0 q1 q2 p1 p2 r Ci):K249vaal q0 q1 q2 p1 p2 r Ct:=⟨h,⟨(lz rfl),⟨tv,tv,⟨tv,dT _⟩,tv⟩,tv,tv⟩,(forall_cons ⟨tv,tv,⟨tv,⟨(lz rfl),(lz rfl),tv⟩⟩,tv⟩ (forall_cons ⟨⟨tv,dT _⟩,tv⟩ (forall_cons ⟨(lz rfl),tv⟩ forall_nil))),⟨tv,tv,dT _,tv⟩,(forall_cons ⟨tv,tv,⟨tv,⟨(lz rfl),(lz rfl),tv⟩⟩,tv⟩ (forall_cons ⟨dT _,tv⟩ (forall_cons ⟨(lz rfl),tv⟩ forall_nil)))⟩
theorem c249vaal{qq q0 q1 q2 p1 p2 r}(h:e249vaal qq q0 q1 q2 p1 p2=some r):K249vaal q0 q1 q2 p1 p2 r Ct:=by
 unfold e249vaal at h
 obtain⟨r1,h2,h⟩:=obind h
 have k:=oC 2 [] (c227 h2) o0
 rcases spl h with⟨h3,h⟩|⟨h3,h⟩
 obtain⟨r4,h5,h⟩:=obind h
 obtain rfl:=sj h
 exact k249vaal (tF q249vaal 1 [0,1,2] (oD (dT r4.sub)<|oD (dT q2)<|oC 1 [] (c212 h5)<|oB 3 h3 k))
 obtain⟨r6,h7,h⟩:=obind h
 have k:=oC 1 [] (c278 h7)<|oB 3 h3 k
 rcases spl h with⟨h8,h⟩|⟨h8,h⟩
 obtain⟨r9,h10,h⟩:=obind h
 obtain rfl:=sj h
 exact k249vaal (tF q249vaal 1 [0,1,2] (oD (dT r9.sub)<|oD (dT q2)<|oC 1 [] (c212 h10)<|oB 3 h8 k))
 obtain rfl:=sj h
 exact k249vaal (tF q249vaal 2 [0,1,2] (oD (dT r6.1.sub)<|oD (dT q2)<|oB 3 h8 k))
def e247vaam(qq:Nat)(p0:Tm)(p1:Int)(q2:List Tm)(q3:Int)(q4:Bool):Option (Tm×Bool×Int×Bool):=
 e248 qq p0 p1>>=fun r1=>
 if decide (r1<0)then
 some ((Tm.mk 0 0 []),false,q3,q4)
 else
 if decide (r1<(List.length q2:Int))then
 gidx q2 r1>>=fun x5=>
 e249vaal qq q3 q4 q2 x5 p1>>=fun r7=>
 some (r7.1,true,r7.2.1,r7.2.2)
 else
 e149 qq (w64 (p0.n-(List.length q2:Int)))>>=fun r9=>
 some (r9,true,q3,q4)
abbrev K247vaam (p0:Tm) (p1:Int) (q2:List Tm) (q3:Int) (q4:Bool) (r:Tm×Bool×Int×Bool) (C:Cf):Prop:=C 247 [.cells [slv tmCells q2 .no],.cells [.mp 2 0],.cells [ai q3,ab q4,.clo 247 [] [.mp 0 0,.mp 1 0]]] [tmA p0,ai p1,.mp 0 0,.mp 1 0] (.tup [tmA r.1,ab r.2.1]) [.cells [slv tmCells q2 .no],.cells [.mp 2 0],.cells [ai r.2.2.1,ab r.2.2.2,.clo 247 [] [.mp 0 0,.mp 1 0]]] 0
theorem q247vaam:Qf 247 Tryz.f247:=⟨Tryz.func247,by kernel_rfl⟩
theorem k247vaam{p0 p1 q2 q3 q4 r}(h:K247vaam p0 p1 q2 q3 q4 r Ci):K247vaam p0 p1 q2 q3 q4 r Ct:=⟨h,⟨⟨tv,tv,⟨tv,dT _⟩,tv⟩,tv,(lz rfl),(lz rfl),tv⟩,(forall_cons ⟨⟨tv,dT _⟩,tv⟩ (forall_cons ⟨(lz rfl),tv⟩ (forall_cons ⟨tv,tv,⟨tv,⟨(lz rfl),(lz rfl),tv⟩⟩,tv⟩ forall_nil))),⟨⟨tv,tv,dT _,tv⟩,tv,tv⟩,(forall_cons ⟨dT _,tv⟩ (forall_cons ⟨(lz rfl),tv⟩ (forall_cons ⟨tv,tv,⟨tv,⟨(lz rfl),(lz rfl),tv⟩⟩,tv⟩ forall_nil)))⟩
theorem c247vaam{qq p0 p1 q2 q3 q4 r}(h:e247vaam qq p0 p1 q2 q3 q4=some r):K247vaam p0 p1 q2 q3 q4 r Ct:=by
 unfold e247vaam at h
 obtain⟨r1,h2,h⟩:=obind h
 have k:=oC 1 [] (c248 h2) o0
 rcases spl h with⟨h3,h⟩|⟨h3,h⟩
 obtain rfl:=sj h
 exact k247vaam (tF q247vaam 1 [0,1,2] (oD (dT ([]:List Tm))<|oD (dT q2)<|oB 0 h3 k))
 have k:=oB 0 h3 k
 rcases spl h with⟨h4,h⟩|⟨h4,h⟩
 obtain⟨x5,h6,h⟩:=obind h
 obtain⟨r7,h8,h⟩:=obind h
 obtain rfl:=sj h
 exact k247vaam (tF q247vaam 1 [0,1,2] (oD (dT r7.1.sub)<|oD (dT q2)<|oC 1 [2,0,1] (c249vaal h8)<|oA 2 (ix23 (o:=.no) h6)<|oB 2 h4 k))
 obtain⟨r9,h10,h⟩:=obind h
 obtain rfl:=sj h
 exact k247vaam (tF q247vaam 1 [0,1,2] (oD (dT r9.sub)<|oD (dT q2)<|oC 4 [] (c149 h10)<|oB 2 h4 k))
mutual
def e301vaal:Nat->Int->Bool->(List Tm)->Tm->Int->Option (Tm×Int×Bool)
 |0,_,_,_,_,_=>none
 |qq+1,q0,q1,q2,p1,p2=>
 if q1 then
 e212 qq 0>>=fun r2=>
 some (r2,q0,q1)
 else
 e247vaam qq p1 p2 q2 q0 q1>>=fun r4=>
 if r4.2.1 then
 some (r4.1,r4.2.2.1,r4.2.2.2)
 else
 if decide ((w64 (r4.2.2.1-1))<0)then
 e301vaalLan qq q2 p1 p2 0 (w64 (r4.2.2.1-1)) true []
 else
 e301vaalLan qq q2 p1 p2 0 (w64 (r4.2.2.1-1)) r4.2.2.2 []
def e301vaalLan:Nat->(List Tm)->Tm->Int->Int->Int->Bool->(List Tm)->Option (Tm×Int×Bool)
 |0,_,_,_,_,_,_,_=>none
 |qq+1,q2,p1,p2,v53,vb0_0,vb0_1,vb5_2=>
 if decide (v53<(List.length p1.sub:Int))then
 gidx p1.sub v53>>=fun x9=>
 if v53==1 then
 if p1.k != 5 then
 e301vaal qq vb0_0 vb0_1 q2 x9 (w64 (p2+1))>>=fun r13=>
 gapp 40 vb5_2 [r13.1]>>=fun l15=>
 e301vaalLan qq q2 p1 p2 (w64 (v53+1)) r13.2.1 r13.2.2 l15
 else
 e301vaal qq vb0_0 vb0_1 q2 x9 p2>>=fun r17=>
 gapp 40 vb5_2 [r17.1]>>=fun l19=>
 e301vaalLan qq q2 p1 p2 (w64 (v53+1)) r17.2.1 r17.2.2 l19
 else
 e301vaal qq vb0_0 vb0_1 q2 x9 p2>>=fun r21=>
 gapp 40 vb5_2 [r21.1]>>=fun l23=>
 e301vaalLan qq q2 p1 p2 (w64 (v53+1)) r21.2.1 r21.2.2 l23
 else
 some ((Tm.mk p1.k p1.n vb5_2),vb0_0,vb0_1)
end
def g301vaalLanE0(j:Nat->Value)(q2:List Tm)(p1:Tm)(p2 v53 vb0_0:Int)(vb0_1:Bool)(vb5_2:List Tm):=sp j 79 0 [(0,.mp 0 0),(2,ai p2),(4,.mp 3 0),(6,.mp 4 0),(9,.mp 5 0),(51,slv tmCells p1.sub .no),(52,ai (List.length p1.sub:Int)),(53,ai v53)]
def g301vaalLanS0(q2:List Tm)(p1:Tm)(p2 v53 vb0_0:Int)(vb0_1:Bool)(vb5_2:List Tm):LSt:=⟨[(0,.cells [ai vb0_0,ab vb0_1,.clo 247 [] [.mp 1 0,.mp 2 0]]),(1,.cells [slv tmCells q2 .no]),(2,.cells [.mp 0 0]),(3,.cells [ai p1.k,ai p1.n,slv tmCells p1.sub .no]),(4,.cells [ai 0,ai 0,slv tmCells ([]:List Tm) .nl]),(5,.cells [ai p1.k,ai p1.n,slv tmCells vb5_2 (.st 0 3)])],6,[0],1,[]⟩
abbrev K301vaal (q0:Int) (q1:Bool) (q2:List Tm) (p1:Tm) (p2:Int) (r:Tm×Int×Bool) (C:Cf):Prop:=C 301 [.cells [ai q0,ab q1,.clo 247 [] [.mp 1 0,.mp 2 0]],.cells [slv tmCells q2 .no],.cells [.mp 0 0]] [.mp 0 0,tmA p1,ai p2] (tmA r.1) [.cells [ai r.2.1,ab r.2.2,.clo 247 [] [.mp 1 0,.mp 2 0]],.cells [slv tmCells q2 .no],.cells [.mp 0 0]] 0
theorem q301vaal:Qf 301 Tryz.f301:=⟨Tryz.func301,by kernel_rfl⟩
theorem k301vaal{q0 q1 q2 p1 p2 r}(h:K301vaal q0 q1 q2 p1 p2 r Ci):K301vaal q0 q1 q2 p1 p2 r Ct:=⟨h,⟨(lz rfl),⟨tv,tv,⟨tv,dT _⟩,tv⟩,tv,tv⟩,(forall_cons ⟨tv,tv,⟨tv,⟨(lz rfl),(lz rfl),tv⟩⟩,tv⟩ (forall_cons ⟨⟨tv,dT _⟩,tv⟩ (forall_cons ⟨(lz rfl),tv⟩ forall_nil))),⟨tv,tv,dT _,tv⟩,(forall_cons ⟨tv,tv,⟨tv,⟨(lz rfl),(lz rfl),tv⟩⟩,tv⟩ (forall_cons ⟨dT _,tv⟩ (forall_cons ⟨(lz rfl),tv⟩ forall_nil)))⟩
theorem a301vaal_301vaalLan:∀qq:Nat,(∀q0 q1 q2 p1 p2 r,e301vaal qq q0 q1 q2 p1 p2=some r->K301vaal q0 q1 q2 p1 p2 r Ct)∧(∀q2 p1 p2 v53 vb0_0 vb0_1 vb5_2 r,e301vaalLan qq q2 p1 p2 v53 vb0_0 vb0_1 vb5_2=some r->(∀j,Dl Tryz.prog 3 (inn (inn (rgt (lft (rgt (rgt (rgt (rgt (rgt (bod Tryz.f301)))))))))) (g301vaalLanE0 j q2 p1 p2 v53 vb0_0 vb0_1 vb5_2) (g301vaalLanS0 q2 p1 p2 v53 vb0_0 vb0_1 vb5_2) (frameQ Tryz.prog 3 (FinQ Tryz.prog 3 Tryz.f301 (tmA r.1) [.cells [ai r.2.1,ab r.2.2,.clo 247 [] [.mp 1 0,.mp 2 0]],.cells [slv tmCells q2 .no],.cells [.mp 0 0]] 0) [.blk 0,.seq (rgt (rgt (rgt (rgt (rgt (rgt (bod Tryz.f301)))))))]))):=by
 intro qq
 induction qq with
 |zero=>
  exact⟨fun _ _ _ _ _ _ h=>nn h,fun _ _ _ _ _ _ _ _ h=>nn h⟩
 |succ qq ih=>
  obtain⟨ih301vaal,ih301vaalLan⟩:=ih
  refine⟨?_,?_⟩
  intro q0 q1 q2 p1 p2 r h
  rw[e301vaal]at h
  rcases spl h with⟨h1,h⟩|⟨h1,h⟩
  obtain⟨r2,h3,h⟩:=obind h
  obtain rfl:=sj h
  exact k301vaal (tF q301vaal 1 [0,1,2] (oD (dT r2.sub)<|oD (dT q2)<|oC 0 [] (c212 h3)<|oB 0 h1 o0))
  obtain⟨r4,h5,h⟩:=obind h
  have k:=oC 2 [1,2,0] (c247vaam h5)<|oB 0 h1 o0
  rcases spl h with⟨h6,h⟩|⟨h6,h⟩
  obtain rfl:=sj h
  exact k301vaal (tF q301vaal 3 [0,1,2] (oD (dT r4.1.sub)<|oD (dT q2)<|oB 1 h6 k))
  have k:=oB 1 h6 k
  rcases spl h with⟨h7,h⟩|⟨h7,h⟩
  exact k301vaal (tH q301vaal 6 [(some 6,2,3)] [0,1,2,3,4,6] [0] [0,2,4,6,9,51,52,53] (oD (dT p1.sub)<|oD (dT ([]:List Tm))<|oD (dT ([]:List Tm))<|oD (dT p1.sub)<|oD (dT q2)<|oB 5 h7 k) (ih301vaalLan _ _ _ _ _ _ _ _ h))
  exact k301vaal (tH q301vaal 5 [(some 6,2,3)] [0,1,2,3,4,6] [0] [0,2,4,6,9,51,52,53] (oD (dT p1.sub)<|oD (dT ([]:List Tm))<|oD (dT ([]:List Tm))<|oD (dT p1.sub)<|oD (dT q2)<|oB 5 h7 k) (ih301vaalLan _ _ _ _ _ _ _ _ h))
  intro q2 p1 p2 v53 vb0_0 vb0_1 vb5_2 r h
  rw[e301vaalLan]at h
  rcases spl h with⟨h8,h⟩|⟨h8,h⟩
  obtain⟨x9,h10,h⟩:=obind h
  have k:=oA 0 (ix23 (o:=.no) h10)<|oB 0 h8 o0
  rcases spl h with⟨h11,h⟩|⟨h11,h⟩
  have k:=oB 2 h11 k
  rcases spl h with⟨h12,h⟩|⟨h12,h⟩
  obtain⟨r13,h14,h⟩:=obind h
  obtain⟨l15,h16,h⟩:=obind h
  exact fun j=>lH 2 [] [0,1,2,3,4,5] [1] [0,2,4,6,9,51,52,53] (oD (dT p1.sub)<|oD (dT l15)<|oD (dT ([]:List Tm))<|oD (dT p1.sub)<|oD (dT q2)<|oP 0 (apS23 h16 (by simp))<|oS 0 (obLitR tm_eq [r13.1])<|oC 3 [0,1,2] (ih301vaal _ _ _ _ _ _ h14)<|oB 1 h12 k) (ih301vaalLan _ _ _ _ _ _ _ _ h)
  obtain⟨r17,h18,h⟩:=obind h
  obtain⟨l19,h20,h⟩:=obind h
  exact fun j=>lH 2 [] [0,1,2,3,4,5] [1] [0,2,4,6,9,51,52,53] (oD (dT p1.sub)<|oD (dT l19)<|oD (dT ([]:List Tm))<|oD (dT p1.sub)<|oD (dT q2)<|oP 0 (apS23 h20 (by simp))<|oS 0 (obLitR tm_eq [r17.1])<|oC 2 [0,1,2] (ih301vaal _ _ _ _ _ _ h18)<|oB 1 h12 k) (ih301vaalLan _ _ _ _ _ _ _ _ h)
  obtain⟨r21,h22,h⟩:=obind h
  obtain⟨l23,h24,h⟩:=obind h
  exact fun j=>lH 2 [] [0,1,2,3,4,5] [1] [0,2,4,6,9,51,52,53] (oD (dT p1.sub)<|oD (dT l23)<|oD (dT ([]:List Tm))<|oD (dT p1.sub)<|oD (dT q2)<|oP 0 (apS23 h24 (by simp))<|oS 0 (obLitR tm_eq [r21.1])<|oC 2 [0,1,2] (ih301vaal _ _ _ _ _ _ h22)<|oB 2 h11 k) (ih301vaalLan _ _ _ _ _ _ _ _ h)
  obtain rfl:=sj h
  exact fun j=>lF 2 [0,1,2] (oD (dT vb5_2)<|oD (dT q2)<|oB 0 h8 o0)
theorem c301vaal{qq q0 q1 q2 p1 p2 r}(h:e301vaal qq q0 q1 q2 p1 p2=some r):K301vaal q0 q1 q2 p1 p2 r Ct:=(a301vaal_301vaalLan _).1 _ _ _ _ _ _ h
def e245vaao(qq:Nat)(p0:Tm)(q1:List Tm):Option (Tm×Int):=
 e246vaak qq 8192 false q1>>=fun r1=>
 e301vaal qq 8192 false q1 p0 0>>=fun r3=>
 if r3.2.2 then
 some ((Tm.mk 0 0 []),2)
 else
 e89 qq r3.1>>=fun r6=>
 if r6 then
 some (r3.1,0)
 else
 some ((Tm.mk 0 0 []),2)
abbrev K245vaao (p0:Tm) (q1:List Tm) (r:Tm×Int) (C:Cf):Prop:=C 245 [.cells [slv tmCells q1 .no]] [tmA p0,.clo 246 [] [.mp 0 0]] (.tup [tmA r.1,ai r.2]) [.cells [slv tmCells q1 .no]] 0
theorem q245vaao:Qf 245 Tryz.f245:=⟨Tryz.func245,by kernel_rfl⟩
theorem k245vaao{p0 q1 r}(h:K245vaao p0 q1 r Ci):K245vaao p0 q1 r Ct:=⟨h,⟨⟨tv,tv,⟨tv,dT _⟩,tv⟩,⟨tv,⟨(lz rfl),tv⟩⟩,tv⟩,(forall_cons ⟨⟨tv,dT _⟩,tv⟩ forall_nil),⟨⟨tv,tv,dT _,tv⟩,tv,tv⟩,(forall_cons ⟨dT _,tv⟩ forall_nil)⟩
theorem c245vaao{qq p0 q1 r}(h:e245vaao qq p0 q1=some r):K245vaao p0 q1 r Ct:=by
 unfold e245vaao at h
 obtain⟨r1,h2,h⟩:=obind h
 obtain⟨r3,h4,h⟩:=obind h
 have k:=oC 2 [3,0,4] (c301vaal h4)<|oC 0 [3,0] (c246vaak h2) o0
 rcases spl h with⟨h5,h⟩|⟨h5,h⟩
 obtain rfl:=sj h
 exact k245vaao (tF q245vaao 1 [0] (oD (dT ([]:List Tm))<|oD (dT q1)<|oB 1 h5 k))
 obtain⟨r6,h7,h⟩:=obind h
 have k:=oB 1 h5 k
 rcases spl h with⟨h8,h⟩|⟨h8,h⟩
 obtain rfl:=sj h
 exact k245vaao (tF q245vaao 3 [0] (oD (dT r3.1.sub)<|oD (dT q1)<|oK 1 [] h8 (c89 h7) k))
 obtain rfl:=sj h
 exact k245vaao (tF q245vaao 2 [0] (oD (dT ([]:List Tm))<|oD (dT q1)<|oK 1 [] h8 (c89 h7) k))
def e187Lap:Nat->Tm->(List Tm)->Int->Option (Tm×Int)
 |0,_,_,_=>none
 |qq+1,p0,p1,v14=>
 if decide (v14<(List.length p1:Int))then
 gidx p1 v14>>=fun x5=>
 e89 qq x5>>=fun r7=>
 if r7 then
 e187Lap qq p0 p1 (w64 (v14+1))
 else
 some ((Tm.mk 0 0 []),5)
 else
 e245vaao qq p0 p1>>=fun r10=>
 some (r10.1,r10.2)
def e187(qq:Nat)(p0:Tm)(p1:List Tm):Option (Tm×Int):=
 e89 qq p0>>=fun r1=>
 if r1 then
 e187Lap qq p0 p1 0
 else
 some ((Tm.mk 0 0 []),5)
def g187LapE0(j:Nat->Value)(p0:Tm)(p1:List Tm)(v14:Int):=sp j 28 0 [(2,.mp 0 0),(3,.mp 1 0),(4,.mp 2 0),(12,slv tmCells p1 .no),(13,ai (List.length p1:Int)),(14,ai v14)]
def g187LapS0(p0:Tm)(p1:List Tm)(v14:Int):LSt:=⟨[(0,.cells [ai p0.k,ai p0.n,slv tmCells p0.sub .no]),(1,.cells [slv tmCells p1 .no]),(2,.cells [ai 0,ai 0,slv tmCells ([]:List Tm) .nl])],3,[],0,[]⟩
abbrev K187 (p0:Tm) (p1:List Tm) (r:Tm×Int) (C:Cf):Prop:=C 187 [] [tmA p0,slv tmCells p1 .no] (.tup [tmA r.1,ai r.2]) [] 0
theorem q187:Qf 187 Tryz.f187:=⟨Tryz.func187,by kernel_rfl⟩
theorem k187{p0 p1 r}(h:K187 p0 p1 r Ci):K187 p0 p1 r Ct:=⟨h,⟨⟨tv,tv,⟨tv,dT _⟩,tv⟩,⟨tv,dT _⟩,tv⟩,forall_nil,⟨⟨tv,tv,dT _,tv⟩,tv,tv⟩,forall_nil⟩
theorem l187Lap:∀qq:Nat,(∀p0 p1 v14 r,e187Lap qq p0 p1 v14=some r->(∀j,Dl Tryz.prog 0 (inn (inn (rgt (lft (rgt (rgt (bod Tryz.f187))))))) (g187LapE0 j p0 p1 v14) (g187LapS0 p0 p1 v14) (frameQ Tryz.prog 0 (FinQ Tryz.prog 0 Tryz.f187 (.tup [tmA r.1,ai r.2]) [] 0) [.blk 0,.seq (rgt (rgt (rgt (bod Tryz.f187))))]))):=by
 intro qq
 induction qq with
 |zero=>
  exact fun _ _ _ _ h=>nn h
 |succ qq ih=>
  intro p0 p1 v14 r h
  rw[e187Lap]at h
  rcases spl h with⟨h4,h⟩|⟨h4,h⟩
  obtain⟨x5,h6,h⟩:=obind h
  obtain⟨r7,h8,h⟩:=obind h
  have k:=oA 0 (ix23 (o:=.no) h6)<|oB 0 h4 o0
  rcases spl h with⟨h9,h⟩|⟨h9,h⟩
  exact fun j=>lH 2 [] [0,1,2] [] [2,3,4,12,13,14] (oD (dT p1)<|oD (dT ([]:List Tm))<|oD (dT p1)<|oD (dT p0.sub)<|oK 3 [] h9 (c89 h8) k) (ih _ _ _ _ h)
  obtain rfl:=sj h
  exact fun j=>lF 2 [] (oD (dT ([]:List Tm))<|oK 3 [] h9 (c89 h8) k)
  obtain⟨r10,h11,h⟩:=obind h
  obtain rfl:=sj h
  exact fun j=>lF 3 [] (oD (dT r10.1.sub)<|oC 1 [1] (c245vaao h11)<|oB 0 h4 o0)
theorem c187{qq p0 p1 r}(h:e187 qq p0 p1=some r):K187 p0 p1 r Ct:=by
 unfold e187 at h
 obtain⟨r1,h2,h⟩:=obind h
 rcases spl h with⟨h3,h⟩|⟨h3,h⟩
 exact k187 (tH q187 3 [] [0,1,2] [] [2,3,4,12,13,14] (oD (dT p1)<|oD (dT ([]:List Tm))<|oD (dT p1)<|oD (dT p0.sub)<|oK 1 [] h3 (c89 h2) o0) (l187Lap _ _ _ _ _ h))
 obtain rfl:=sj h
 exact k187 (tF q187 2 [] (oD (dT ([]:List Tm))<|oK 1 [] h3 (c89 h2) o0))
def e270(qq:Nat)(p0 p1:Tm):Option (Tm×Int):=
 e187 qq p0 [p1]>>=fun r1=>
 some (r1.1,r1.2)
abbrev K270 (p0 p1:Tm) (r:Tm×Int) (C:Cf):Prop:=C 270 [] [tmA p0,tmA p1] (.tup [tmA r.1,ai r.2]) [] 0
theorem q270:Qf 270 Tryz.f270:=⟨Tryz.func270,by kernel_rfl⟩
theorem k270{p0 p1 r}(h:K270 p0 p1 r Ci):K270 p0 p1 r Ct:=⟨h,⟨⟨tv,tv,⟨tv,dT _⟩,tv⟩,⟨tv,tv,⟨tv,dT _⟩,tv⟩,tv⟩,forall_nil,⟨⟨tv,tv,dT _,tv⟩,tv,tv⟩,forall_nil⟩
theorem c270{qq p0 p1 r}(h:e270 qq p0 p1=some r):K270 p0 p1 r Ct:=by
 unfold e270 at h
 obtain⟨r1,h2,h⟩:=obind h
 obtain rfl:=sj h
 exact k270 (tF q270 3 [] (oD (dT r1.1.sub)<|oC 0 [] (c187 h2)<|oS 2 (obLitR tm_eq [p1]) o0))
theorem zT_ok:zT.Ok:=by unfold zT;rw[Tm.Ok,OkL];simp
theorem leaf_ok(k n:Int):(Tm.mk k n []).Ok:=by rw[Tm.Ok,OkL];simp
theorem ev_raised(ls:List Tm)(a:Tm)(b left:Int)(long:Bool)(ho:a.Ok)(hl:LeftOk left long):Evt (fun q=>e249vaal q left long ls a b) (raT a b left long):=by
 simp only[e249vaal]
 have hs:=szT_b a 0 (by omega) (by omega)
 have h1:=hl.1
 have h2:=hl.2.1
 refine(ev_Size a ho).bind ?_
 rw[w64_id (x:=left-szT a 0) (by omega) (by omega)]
 unfold raT
 by_cases h:left-szT a 0<0
 ·rw[if_pos h];exact Evt.ifT (decide_eq_true h) ((ev_Sort 0).bind Evt.ret)
 ·rw[if_neg h]
  refine Evt.ifF (decide_eq_false h) ((ev_Up a b ho).bind ?_)
  by_cases h3:(liftT a b 0).2≠0
  ·rw[if_pos h3];exact Evt.ifT (by simpa using h3) ((ev_Sort 0).bind Evt.ret)
  ·rw[if_neg h3];exact Evt.ifF (by simpa using h3) Evt.ret
mutual
theorem sb_left(ls:List Tm):∀(t:Tm) (b left:Int) (long:Bool),LeftOk left long->LeftOk (sbT ls t b left long).2.1 (sbT ls t b left long).2.2
 | .mk kd n l,b,left,long,h=>by
  rw[sbT]
  cases long with
  |true=>simpa using h
  |false=>
   rw[if_neg (by simp)]
   split
   ·split
    ·exact raT_left h
    ·exact h
   ·have h0:=h.2.2 rfl
    have h1:=h.2.1
    refine sb_leftL ls l kd 0 b _ _ ⟨by omega,by omega,fun h2=>?_⟩
    simp at h2;omega
theorem sb_leftL(ls:List Tm):∀(l:List Tm) (kd:Int) (i:Nat) (b left:Int) (long:Bool),LeftOk left long->LeftOk (sbL ls l kd i b left long).2.1 (sbL ls l kd i b left long).2.2
 | [],kd,i,b,left,long,h=>by rw[sbL];exact h
 |t::l,kd,i,b,left,long,h=>by
  rw[sbL]
  exact sb_leftL ls l kd (i+1) b _ _ (sb_left ls t _ left long h)
end
theorem sbL_len(ls:List Tm):∀(l:List Tm) (kd:Int) (i:Nat) (b left:Int) (long:Bool),(sbL ls l kd i b left long).1.length=l.length
 | [],_,_,_,_,_=>by rw[sbL]
 |t::l,kd,i,b,left,long=>by rw[sbL];exact congrArg (· + 1) (sbL_len ls l kd (i+1) b _ _)
theorem raT_ok(a:Tm)(b left:Int)(long:Bool)(h:a.Ok):(raT a b left long).1.Ok:=by
 unfold raT
 split
 ·exact leaf_ok _ _
 ·split
  ·exact leaf_ok _ _
  ·exact liftT_ok a b 0 h
mutual
theorem sbT_ok(ls:List Tm)(hls:∀a∈ls,a.Ok):∀(t:Tm) (b left:Int) (long:Bool),t.Ok->(sbT ls t b left long).1.Ok
 | .mk kd n l,b,left,long,h=>by
  rw[sbT]
  split
  ·exact leaf_ok _ _
  ·split
   ·split
    ·exact raT_ok _ _ _ _ (hls _ (List.getElem_mem _))
    ·exact leaf_ok _ _
   ·rw[Tm.Ok]at h ⊢
    rw[sbL_len]
    exact⟨h.1,sbL_ok ls hls l kd 0 b _ _ h.2⟩
theorem sbL_ok(ls:List Tm)(hls:∀a∈ls,a.Ok):∀(l:List Tm) (kd:Int) (i:Nat) (b left:Int) (long:Bool),OkL l->OkL (sbL ls l kd i b left long).1
 | [],_,_,_,_,_,_=>by rw[sbL,OkL];trivial
 |t::l,kd,i,b,left,long,h=>by
  rw[OkL]at h
  rw[sbL,OkL]
  exact⟨sbT_ok ls hls t _ _ _ h.1,sbL_ok ls hls l kd (i+1) b _ _ h.2⟩
end
mutual
theorem ev_sb(ls:List Tm)(hls:∀a∈ls,a.Ok)(hlen:ls.length≤1152921504606846976):∀(t:Tm) (b left:Int) (long:Bool),goodT t=true->0≤b->b+t.high≤1152921504606846976->LeftOk left long->Evt (fun q=>e301vaal q left long ls t b) (sbT ls t b left long)
 | .mk kd n l,b,left,long,hg,hb,hb2,hl=>by
  refine Evt.succ ?_
  simp only[e301vaal]
  have hh:=goodT_mk hg
  have hn:=head_n hh.1
  rw[Tm.high]at hb2
  rw[sbT]
  cases long with
  |true=>exact Evt.ifT rfl ((ev_Sort 0).bind (Evt.ret.eq (by simp)))
  |false=>
   refine Evt.ifF rfl ?_
   rw[if_neg (by simp)]
   have hloose:Evt (fun q=>e248 q (.mk kd n l) b) (if kd=1∧b≤n then n-b else -1):=by
    refine Evt.mk fun q=>?_
    unfold e248
    simp only[Tm.k,Tm.n]
    by_cases h1:kd=1
    ·by_cases h2:n<b
     ·simp[h1,h2,show ¬b≤n by omega]
     ·simp[h1,h2,show b≤n by omega]
      exact w64_id (by omega) (by omega)
    ·simp[h1]
   by_cases h1:kd=1∧b≤n
   ·rw[if_pos h1]at hloose ⊢
    have hleaf:Evt (fun q=>e247vaam q (.mk kd n l) b ls left false) (let r:=(if h:(n-b).toNat<ls.length then raT (ls[(n-b).toNat]) b left false else(.mk 1 (n-ls.length) [],left,false));(r.1,true,r.2.1,r.2.2)):=by
     simp only[e247vaam]
     refine hloose.bind (Evt.ifF (decide_eq_false (by omega)) ?_)
     by_cases h2:(n-b).toNat<ls.length
     ·rw[dif_pos h2]
      refine Evt.ifT (decide_eq_true (by omega)) (Evt.pure (a:=ls[(n-b).toNat]) ?_ ((ev_raised ls _ b left false (hls _ (List.getElem_mem _)) hl).bind Evt.ret))
      unfold gidx
      rw[if_pos (by omega)]
      exact List.getElem?_eq_getElem h2
     ·rw[dif_neg h2]
      refine Evt.ifF (decide_eq_false (by omega)) ?_
      simp only[Tm.n]
      rw[w64_id (by omega) (by omega)]
      exact(ev_Var _).bind Evt.ret
    exact hleaf.bind (Evt.ifT rfl Evt.ret)
   ·rw[if_neg h1]at hloose ⊢
    have hleaf:Evt (fun q=>e247vaam q (.mk kd n l) b ls left false) (.mk 0 0 [],false,left,false):=by
     simp only[e247vaam]
     exact hloose.bind (Evt.ifT rfl Evt.ret)
    refine hleaf.bind (Evt.ifF rfl ?_)
    have h0:=hl.2.2 rfl
    have h3:=hl.2.1
    rw[w64_id (x:=left-1) (by omega) (by omega)]
    have go:∀lg:Bool,lg=decide (left-1<0)->Evt (fun q=>e301vaalLan q ls (.mk kd n l) b 0 (left-1) lg []) (let r:=sbL ls l kd 0 b (left-1) (decide (left-1<0));(.mk kd n r.1,r.2.1,r.2.2)):=fun lg hlg=>by
     subst hlg
     refine(ev_sbL ls hls hlen l (.mk kd n l) 0 b (left-1) _ [] rfl hh.2 (by have:=hn.2.2.2.2;exact this) hb (by omega) ⟨by omega,by omega,fun h2=>?_⟩ (by simp)).eq (by simp[Tm.k,Tm.n])
     simp at h2;omega
    by_cases h4:left-1<0
    ·exact Evt.ifT (decide_eq_true h4) (go true (by simp[h4]))
    ·exact Evt.ifF (decide_eq_false h4) (go false (by simp[h4]))
theorem ev_sbL(ls:List Tm)(hls:∀a∈ls,a.Ok)(hlen:ls.length≤1152921504606846976):∀(l:List Tm) (p:Tm) (v:Nat) (b left:Int) (long:Bool) (acc:List Tm),p.sub.drop v=l->goodL l=true->p.sub.length≤2->0≤b->b+1+highL l≤1152921504606846976->LeftOk left long->acc.length≤v ->
  Evt (fun q=>e301vaalLan q ls p b (v:Int) left long acc) (.mk p.k p.n (acc++(sbL ls l p.k v b left long).1),(sbL ls l p.k v b left long).2.1,(sbL ls l p.k v b left long).2.2)
 | [],p,v,b,left,long,acc,hd,hg,hl2,hb,hb2,hl,ha=>by
  refine Evt.succ ?_
  simp only[e301vaalLan]
  exact Evt.ifF (drop_nil hd) (Evt.ret.eq (by rw[sbL];simp))
 |t::l,p,v,b,left,long,acc,hd,hg,hl2,hb,hb2,hl,ha=>by
  have hlt:=drop_lt hd
  have hgc:=goodL_cons hg
  rw[highL]at hb2
  refine Evt.succ ?_
  simp only[e301vaalLan]
  refine Evt.ifT (drop_dec hd) (Evt.pure (drop_idx hd) ?_)
  have next:∀x:Tm×Int×Bool,LeftOk x.2.1 x.2.2->Evt (fun q=>gapp 40 acc [x.1]>>=fun l15=>e301vaalLan q ls p b (w64 ((v:Int)+1)) x.2.1 x.2.2 l15)
    (.mk p.k p.n (acc++x.1::(sbL ls l p.k (v+1) b x.2.1 x.2.2).1),(sbL ls l p.k (v+1) b x.2.1 x.2.2).2.1,(sbL ls l p.k (v+1) b x.2.1 x.2.2).2.2):=fun x hx=>by
   refine Evt.pure (gapp_ok (by simp<;>omega)) ?_
   rw[w64_nat v (by omega)]
   exact(ev_sbL ls hls hlen l p (v+1) b x.2.1 x.2.2 (acc++[x.1]) (drop_next hd) hgc.2 hl2 hb (by omega) hx (by simp<;>omega)).eq (by simp)
  rw[sbL]
  by_cases h1:v=1
  ·subst h1
   refine Evt.ifT rfl ?_
   by_cases h5:p.k=5
   ·refine Evt.ifF (by simp[h5]) ?_
    have e:undR' p.k 1 b=b:=by unfold undR';simp[h5]
    rw[e]
    exact(ev_sb ls hls hlen t b left long hgc.1 hb (by omega) hl).bind (next _ (sb_left ls t b left long hl))
   ·refine Evt.ifT (by simp[h5]) ?_
    have e:undR' p.k 1 b=b+1:=by unfold undR';simp[h5]
    rw[e,w64_id (x:=b+1) (by omega) (by omega)]
    exact(ev_sb ls hls hlen t (b+1) left long hgc.1 (by omega) (by omega) hl).bind (next _ (sb_left ls t (b+1) left long hl))
  ·refine Evt.ifF (by simp<;>omega) ?_
   have e:undR' p.k v b=b:=by unfold undR';simp[h1]
   rw[e]
   exact(ev_sb ls hls hlen t b left long hgc.1 hb (by omega) hl).bind (next _ (sb_left ls t b left long hl))
end
def subT(t:Tm)(ls:List Tm):Tm×Int:=
 if shapedT t=true∧(ls.all shapedT)=true then
  (if (sbT ls t 0 8192 false).2.2=true then(zT,2)else if shapedT (sbT ls t 0 8192 false).1=true then((sbT ls t 0 8192 false).1,0)else(zT,2))
 else(zT,5)
theorem ev_run(t:Tm)(ls:List Tm)(h:shapedT t=true)(ho:t.Ok)(hls:∀a∈ls,a.Ok)(hlen:ls.length≤1152921504606846976) :
  Evt (fun q=>e245vaao q t ls) (if (sbT ls t 0 8192 false).2.2=true then(zT,2)else if shapedT (sbT ls t 0 8192 false).1=true then((sbT ls t 0 8192 false).1,0)else(zT,2)):=by
 simp only[e245vaao]
 have hs:=shapedT_spec h
 refine Evt.bind (a:=()) (Evt.mk fun _=>rfl) ((ev_sb ls hls hlen t 0 8192 false hs.2.2 (by omega) (by omega) ⟨by omega,by omega,fun _=>by omega⟩).bind ?_)
 by_cases h1:(sbT ls t 0 8192 false).2.2=true
 ·rw[if_pos h1];exact Evt.ifT h1 Evt.ret
 ·rw[if_neg h1]
  refine Evt.ifF (by simpa using h1) ((ev_Shaped _ (sbT_ok ls hls t 0 8192 false ho)).bind ?_)
  by_cases h2:shapedT (sbT ls t 0 8192 false).1=true
  ·rw[if_pos h2,if_pos h2];exact Evt.ret
  ·rw[if_neg h2,if_neg h2];exact Evt.ret
theorem ev_ManyL(t:Tm)(ls:List Tm)(h:shapedT t=true)(ho:t.Ok)(hls:∀a∈ls,a.Ok)(hlen:ls.length≤1152921504606846976):∀(r:List Tm) (v:Nat),ls.drop v=r ->
  Evt (fun q=>e187Lap q t ls (v:Int)) (if (r.all shapedT)=true then(if (sbT ls t 0 8192 false).2.2=true then(zT,2)else if shapedT (sbT ls t 0 8192 false).1=true then((sbT ls t 0 8192 false).1,0)else(zT,2))else(zT,5))
 | [],v,hd=>by
  refine Evt.succ ?_
  simp only[e187Lap]
  exact Evt.ifF (drop_nil hd) ((ev_run t ls h ho hls hlen).bind (Evt.ret.eq (by simp)))
 |x::r,v,hd=>by
  have hlt:=drop_lt hd
  have hx:x∈ls:=by
   have:x∈ls.drop v:=by rw[hd];simp
   exact List.mem_of_mem_drop this
  refine Evt.succ ?_
  simp only[e187Lap]
  refine Evt.ifT (drop_dec hd) (Evt.pure (drop_idx hd) ((ev_Shaped x (hls x hx)).bind ?_))
  by_cases h1:shapedT x=true
  ·refine Evt.ifT h1 ?_
   rw[w64_nat v (by omega)]
   exact(ev_ManyL t ls h ho hls hlen r (v+1) (drop_next hd)).eq (by simp[h1])
  ·exact Evt.ifF (by simpa using h1) (Evt.ret.eq (by simp[h1,zT]))
theorem ev_Many(t:Tm)(ls:List Tm)(ho:t.Ok)(hls:∀a∈ls,a.Ok)(hlen:ls.length≤1152921504606846976):Evt (fun q=>e187 q t ls) (subT t ls):=by
 simp only[e187]
 refine(ev_Shaped t ho).bind ?_
 unfold subT
 by_cases h:shapedT t=true
 ·refine Evt.ifT h ((ev_ManyL t ls h ho hls hlen ls 0 rfl).eq ?_)
  simp[h]
 ·exact Evt.ifF (by simpa using h) (Evt.ret.eq (by simp[h,zT]))
theorem subT_ok(t:Tm)(ls:List Tm)(ho:t.Ok)(hls:∀a∈ls,a.Ok):(subT t ls).1.Ok:=by
 unfold subT
 split
 ·split
  ·exact zT_ok
  ·split
   ·exact sbT_ok ls hls t 0 8192 false ho
   ·exact zT_ok
 ·exact zT_ok
def e211Laq:Nat->Int->Int->(List Tm)->Int->Int->(List Tm)->Option (List Tm×Tm×Int)
 |0,_,_,_,_,_,_=>none
 |qq+1,p1,v25,v7,vb1_0,vb1_1,vb1_2=>
 if decide (v25<p1)then
 if vb1_0 != 3 then
 some ([],(Tm.mk 0 0 []),6)
 else
 gidx vb1_2 0>>=fun x10=>
 gapp 40 v7 [x10]>>=fun l12=>
 gidx vb1_2 1>>=fun x14=>
 e211Laq qq p1 (w64 (v25+1)) l12 x14.k x14.n x14.sub
 else
 some (v7,(Tm.mk vb1_0 vb1_1 vb1_2),0)
def e211(qq:Nat)(p0:Tm)(p1:Int):Option (List Tm×Tm×Int):=
 e89 qq p0>>=fun r1=>
 if r1 then
 if decide (p1<0)then
 some ([],(Tm.mk 0 0 []),5)
 else
 if decide (p1>24)then
 some ([],(Tm.mk 0 0 []),2)
 else
 e123 qq p0>>=fun r6=>
 e211Laq qq p1 0 [] r6.k r6.n r6.sub
 else
 some ([],(Tm.mk 0 0 []),5)
def g211LaqE0(j:Nat->Value)(p1 v25:Int)(v7:List Tm)(vb1_0 vb1_1:Int)(vb1_2:List Tm):=sp j 45 0 [(5,.mp 0 0),(7,slv tmCells v7 (.st 0 3)),(8,.mp 1 0),(24,ai p1),(25,ai v25)]
def g211LaqS0(p1 v25:Int)(v7:List Tm)(vb1_0 vb1_1:Int)(vb1_2:List Tm):LSt:=⟨[(0,.cells [ai 0,ai 0,slv tmCells ([]:List Tm) .nl]),(1,.cells [ai vb1_0,ai vb1_1,slv tmCells vb1_2 .no])],2,[0],1,[]⟩
abbrev K211 (p0:Tm) (p1:Int) (r:List Tm×Tm×Int) (C:Cf):Prop:=C 211 [] [tmA p0,ai p1] (.tup [.sl (flat tmCells r.1) (List.length r.1) .no,tmA r.2.1,ai r.2.2]) [] 0
theorem q211:Qf 211 Tryz.f211:=⟨Tryz.func211,by kernel_rfl⟩
theorem k211{p0 p1 r}(h:K211 p0 p1 r Ci):K211 p0 p1 r Ct:=⟨h,⟨⟨tv,tv,⟨tv,dT _⟩,tv⟩,tv,tv⟩,forall_nil,⟨dT _,⟨tv,tv,dT _,tv⟩,tv,tv⟩,forall_nil⟩
theorem l211Laq:∀qq:Nat,(∀p1 v25 v7 vb1_0 vb1_1 vb1_2 r,e211Laq qq p1 v25 v7 vb1_0 vb1_1 vb1_2=some r->(∀j,Dl Tryz.prog 0 (inn (inn (rgt (lft (rgt (rgt (rgt (rgt (bod Tryz.f211))))))))) (g211LaqE0 j p1 v25 v7 vb1_0 vb1_1 vb1_2) (g211LaqS0 p1 v25 v7 vb1_0 vb1_1 vb1_2) (frameQ Tryz.prog 0 (FinQ Tryz.prog 0 Tryz.f211 (.tup [.sl (flat tmCells r.1) (List.length r.1) .no,tmA r.2.1,ai r.2.2]) [] 0) [.blk 1,.seq (rgt (rgt (rgt (rgt (rgt (bod Tryz.f211))))))]))):=by
 intro qq
 induction qq with
 |zero=>
  exact fun _ _ _ _ _ _ _ h=>nn h
 |succ qq ih=>
  intro p1 v25 v7 vb1_0 vb1_1 vb1_2 r h
  rw[e211Laq]at h
  rcases spl h with⟨h8,h⟩|⟨h8,h⟩
  have k:=oB 0 h8 o0
  rcases spl h with⟨h9,h⟩|⟨h9,h⟩
  obtain rfl:=sj h
  exact fun j=>lF 1 [] (oD (dT ([]:List Tm))<|oD (dT ([]:List Tm))<|oB 1 h9 k)
  obtain⟨x10,h11,h⟩:=obind h
  obtain⟨l12,h13,h⟩:=obind h
  obtain⟨x14,h15,h⟩:=obind h
  exact fun j=>lH 3 [] [0,1] [1] [5,7,8,24,25] (oD (dT l12)<|oD (dT x14.sub)<|oD (dT ([]:List Tm))<|oA 1 (ix23 (o:=.no) h15)<|oP 0 (apS23 h13 (by simp))<|oS 1 (obLitR tm_eq [x10])<|oA 1 (ix23 (o:=.no) h11)<|oB 1 h9 k) (ih _ _ _ _ _ _ _ h)
  obtain rfl:=sj h
  exact fun j=>lF 2 [] (oD (dT vb1_2)<|oD (dT v7)<|oB 0 h8 o0)
theorem c211{qq p0 p1 r}(h:e211 qq p0 p1=some r):K211 p0 p1 r Ct:=by
 unfold e211 at h
 obtain⟨r1,h2,h⟩:=obind h
 rcases spl h with⟨h3,h⟩|⟨h3,h⟩
 have k:=oK 1 [] h3 (c89 h2) o0
 rcases spl h with⟨h4,h⟩|⟨h4,h⟩
 obtain rfl:=sj h
 exact k211 (tF q211 1 [] (oD (dT ([]:List Tm))<|oD (dT ([]:List Tm))<|oB 1 h4 k))
 have k:=oB 1 h4 k
 rcases spl h with⟨h5,h⟩|⟨h5,h⟩
 obtain rfl:=sj h
 exact k211 (tF q211 1 [] (oD (dT ([]:List Tm))<|oD (dT ([]:List Tm))<|oB 0 h5 k))
 obtain⟨r6,h7,h⟩:=obind h
 exact k211 (tH q211 1 [(none,7,3)] [1,2] [0] [5,7,8,24,25] (oD (dT ([]:List Tm))<|oD (dT r6.sub)<|oD (dT ([]:List Tm))<|oC 1 [] (c123 h7)<|oB 0 h5 k) (l211Laq _ _ _ _ _ _ _ _ h))
 obtain rfl:=sj h
 exact k211 (tF q211 2 [] (oD (dT ([]:List Tm))<|oD (dT ([]:List Tm))<|oK 1 [] h3 (c89 h2) o0))
def e286Lar:Nat->Tm->Int->Int->Int->(List Tm)->Option (List Tm×Tm×Int)
 |0,_,_,_,_,_=>none
 |qq+1,p0,v5,vb2_0,vb2_1,vb2_2=>
 if vb2_0==3 then
 if (List.length vb2_2:Int)==2 then
 if decide (v5≤24)then
 gidx vb2_2 1>>=fun x4=>
 e286Lar qq p0 (w64 (v5+1)) x4.k x4.n x4.sub
 else
 e211 qq p0 v5>>=fun r6=>
 some (r6.1,r6.2.1,r6.2.2)
 else
 e211 qq p0 v5>>=fun r8=>
 some (r8.1,r8.2.1,r8.2.2)
 else
 e211 qq p0 v5>>=fun r10=>
 some (r10.1,r10.2.1,r10.2.2)
def e286(qq:Nat)(p0:Tm):Option (List Tm×Tm×Int):=
 e286Lar qq p0 0 p0.k p0.n p0.sub
def g286LarE0(j:Nat->Value)(p0:Tm)(v5 vb2_0 vb2_1:Int)(vb2_2:List Tm):=sp j 34 0 [(1,.mp 0 0),(3,.mp 1 0),(5,ai v5),(6,.mp 2 0)]
def g286LarS0(p0:Tm)(v5 vb2_0 vb2_1:Int)(vb2_2:List Tm):LSt:=⟨[(0,.cells [ai p0.k,ai p0.n,slv tmCells p0.sub .no]),(1,.cells [ai 0,ai 0,slv tmCells ([]:List Tm) .nl]),(2,.cells [ai vb2_0,ai vb2_1,slv tmCells vb2_2 .no])],3,[],0,[]⟩
abbrev K286 (p0:Tm) (r:List Tm×Tm×Int) (C:Cf):Prop:=C 286 [] [tmA p0] (.tup [.sl (flat tmCells r.1) (List.length r.1) .no,tmA r.2.1,ai r.2.2]) [] 0
theorem q286:Qf 286 Tryz.f286:=⟨Tryz.func286,by kernel_rfl⟩
theorem k286{p0 r}(h:K286 p0 r Ci):K286 p0 r Ct:=⟨h,⟨⟨tv,tv,⟨tv,dT _⟩,tv⟩,tv⟩,forall_nil,⟨dT _,⟨tv,tv,dT _,tv⟩,tv,tv⟩,forall_nil⟩
theorem l286Lar:∀qq:Nat,(∀p0 v5 vb2_0 vb2_1 vb2_2 r,e286Lar qq p0 v5 vb2_0 vb2_1 vb2_2=some r->(∀j,Dl Tryz.prog 0 (inn (inn (rgt (lft (rgt (rgt (bod Tryz.f286))))))) (g286LarE0 j p0 v5 vb2_0 vb2_1 vb2_2) (g286LarS0 p0 v5 vb2_0 vb2_1 vb2_2) (frameQ Tryz.prog 0 (FinQ Tryz.prog 0 Tryz.f286 (.tup [.sl (flat tmCells r.1) (List.length r.1) .no,tmA r.2.1,ai r.2.2]) [] 0) [.blk 0,.seq (rgt (rgt (rgt (bod Tryz.f286))))]))):=by
 intro qq
 induction qq with
 |zero=>
  exact fun _ _ _ _ _ _ h=>nn h
 |succ qq ih=>
  intro p0 v5 vb2_0 vb2_1 vb2_2 r h
  rw[e286Lar]at h
  rcases spl h with⟨h1,h⟩|⟨h1,h⟩
  have k:=oB 1 h1 o0
  rcases spl h with⟨h2,h⟩|⟨h2,h⟩
  have k:=oB 2 h2 k
  rcases spl h with⟨h3,h⟩|⟨h3,h⟩
  obtain⟨x4,h5,h⟩:=obind h
  exact fun j=>lH 2 [] [0,1,3] [] [1,3,5,6] (oD (dT x4.sub)<|oD (dT ([]:List Tm))<|oD (dT p0.sub)<|oA 4 (ix23 (o:=.no) h5)<|oB 0 h3 k) (ih _ _ _ _ _ _ h)
  obtain⟨r6,h7,h⟩:=obind h
  obtain rfl:=sj h
  exact fun j=>lF 4 [] (oD (dT r6.2.1.sub)<|oD (dT r6.1)<|oC 1 [] (c211 h7)<|oB 0 h3 k)
  obtain⟨r8,h9,h⟩:=obind h
  obtain rfl:=sj h
  exact fun j=>lF 4 [] (oD (dT r8.2.1.sub)<|oD (dT r8.1)<|oC 1 [] (c211 h9)<|oB 2 h2 k)
  obtain⟨r10,h11,h⟩:=obind h
  obtain rfl:=sj h
  exact fun j=>lF 4 [] (oD (dT r10.2.1.sub)<|oD (dT r10.1)<|oC 1 [] (c211 h11)<|oB 1 h1 o0)
theorem c286{qq p0 r}(h:e286 qq p0=some r):K286 p0 r Ct:=by
 unfold e286 at h
 exact k286 (tH q286 2 [] [0,1,2] [] [1,3,5,6] (oD (dT p0.sub)<|oD (dT ([]:List Tm))<|oD (dT p0.sub) o0) (l286Lar _ _ _ _ _ _ _ h))
def e328Las:Nat->Int->Int->(Tm×List Tm)->Int->Option (Bool)
 |0,_,_,_,_=>none
 |qq+1,p2,p4,r1,v37=>
 if decide (v37<p2)then
 gidx r1.2 v37>>=fun x7=>
 if x7.k != 1 then
 some false
 else
 if x7.n != (w64 ((w64 (p4-1))-v37))then
 some false
 else
 e328Las qq p2 p4 r1 (w64 (v37+1))
 else
 some true
def e328(qq:Nat)(p0:Tm)(p1 p2 p3 p4:Int):Option (Bool):=
 e167 qq p0>>=fun r1=>
 if r1.1.k != 6 then
 some false
 else
 if r1.1.n != p1 then
 some false
 else
 if (List.length r1.2:Int) != (w64 (p2+p3))then
 some false
 else
 e328Las qq p2 p4 r1 0
def g328LasE0(j:Nat->Value)(p2 p4:Int)(r1:Tm×List Tm)(v37:Int):=sp j 59 0 [(4,ai p4),(12,slv tmCells r1.2 .no),(36,ai p2),(37,ai v37)]
def g328LasS0(p2 p4:Int)(r1:Tm×List Tm)(v37:Int):LSt:=⟨[],0,[],0,[]⟩
abbrev K328 (p0:Tm) (p1 p2 p3 p4:Int) (r:Bool) (C:Cf):Prop:=C 328 [] [tmA p0,ai p1,ai p2,ai p3,ai p4] (ab r) [] 0
theorem q328:Qf 328 Tryz.f328:=⟨Tryz.func328,by kernel_rfl⟩
theorem k328{p0 p1 p2 p3 p4 r}(h:K328 p0 p1 p2 p3 p4 r Ci):K328 p0 p1 p2 p3 p4 r Ct:=⟨h,⟨⟨tv,tv,⟨tv,dT _⟩,tv⟩,tv,tv,tv,tv,tv⟩,forall_nil,tv,forall_nil⟩
theorem l328Las:∀qq:Nat,(∀p2 p4 r1 v37 r,e328Las qq p2 p4 r1 v37=some r->(∀j,Dl Tryz.prog 0 (inn (inn (rgt (lft (rgt (rgt (rgt (bod Tryz.f328)))))))) (g328LasE0 j p2 p4 r1 v37) (g328LasS0 p2 p4 r1 v37) (frameQ Tryz.prog 0 (FinQ Tryz.prog 0 Tryz.f328 (ab r) [] 0) [.blk 0,.seq (rgt (rgt (rgt (rgt (bod Tryz.f328)))))]))):=by
 intro qq
 induction qq with
 |zero=>
  exact fun _ _ _ _ _ h=>nn h
 |succ qq ih=>
  intro p2 p4 r1 v37 r h
  rw[e328Las]at h
  rcases spl h with⟨h6,h⟩|⟨h6,h⟩
  obtain⟨x7,h8,h⟩:=obind h
  have k:=oA 0 (ix23 (o:=.no) h8)<|oB 0 h6 o0
  rcases spl h with⟨h9,h⟩|⟨h9,h⟩
  obtain rfl:=sj h
  exact fun j=>lF 0 [] (oB 1 h9 k)
  have k:=oA 0 (ix23 (o:=.no) h8)<|oB 1 h9 k
  rcases spl h with⟨h10,h⟩|⟨h10,h⟩
  obtain rfl:=sj h
  exact fun j=>lF 0 [] (oB 3 h10 k)
  exact fun j=>lH 1 [] [] [] [4,12,36,37] (oD (dT r1.2)<|oB 3 h10 k) (ih _ _ _ _ _ h)
  obtain rfl:=sj h
  exact fun j=>lF 0 [] (oB 0 h6 o0)
theorem c328{qq p0 p1 p2 p3 p4 r}(h:e328 qq p0 p1 p2 p3 p4=some r):K328 p0 p1 p2 p3 p4 r Ct:=by
 unfold e328 at h
 obtain⟨r1,h2,h⟩:=obind h
 have k:=oC 1 [] (c167 h2) o0
 rcases spl h with⟨h3,h⟩|⟨h3,h⟩
 obtain rfl:=sj h
 exact k328 (tF q328 0 [] (oB 4 h3 k))
 have k:=oB 4 h3 k
 rcases spl h with⟨h4,h⟩|⟨h4,h⟩
 obtain rfl:=sj h
 exact k328 (tF q328 0 [] (oB 1 h4 k))
 have k:=oB 1 h4 k
 rcases spl h with⟨h5,h⟩|⟨h5,h⟩
 obtain rfl:=sj h
 exact k328 (tF q328 0 [] (oB 2 h5 k))
 exact k328 (tH q328 0 [] [] [] [4,12,36,37] (oD (dT r1.2)<|oB 2 h5 k) (l328Las _ _ _ _ _ _ h))
def splT:Nat->Tm->Option (List Tm×Tm)
 |0,t=>some ([],t)
 |n+1,.mk k _ [a,b]=>if k=3 then(splT n b).map fun r=>(a::r.1,r.2)else none
 |_+1,_=>none
theorem splT_pi(n:Nat)(m:Int)(a b:Tm):splT (n+1) (.mk 3 m [a,b])=(splT n b).map fun r=>(a::r.1,r.2):=by rw[splT,if_pos rfl]
theorem splT_not{n:Nat}{t:Tm}(h:t.k≠3):splT (n+1) t=none:=by
 unfold splT
 split
 ·rename_i h1;cases h1
 ·rename_i h1;exact if_neg h
 ·rfl
theorem pi_form{t:Tm}(hg:goodT t=true)(h:t.k=3):∃a b,t = .mk 3 t.n [a,b]∧goodT a=true∧goodT b=true:=by
 obtain⟨k,n,l⟩:=t
 have hh:=goodT_mk hg
 have hs:=head_spec hh.1
 replace h:k=3:=h
 subst h
 obtain⟨a,b,rfl⟩:=sub2 (hs.2.2.2.2.2.1 (.inl rfl)).1
 have hc:=goodL_cons hh.2
 exact⟨a,b,rfl,hc.1,(goodL_cons hc.2).1⟩
def splR(acc:List Tm):Option (List Tm×Tm)->List Tm×Tm×Int
 |none=>([],zT,6)
 |some r=>(acc++r.1,r.2,0)
theorem ev_SplitL(N:Nat)(hN:N≤24):∀(m v:Nat) (acc:List Tm) (x:Tm),v+m=N->goodT x=true->acc.length≤v->Evt (fun q=>e211Laq q (N:Int) (v:Int) acc x.k x.n x.sub) (splR acc (splT m x)):=by
 intro m
 induction m with
 |zero=>
  intro v acc x hm hg ha
  refine Evt.succ ?_
  simp only[e211Laq]
  refine Evt.ifF (decide_eq_false (by omega)) (Evt.ret.eq ?_)
  rw[splT,splR,tm_eta];simp
 |succ m ih=>
  intro v acc x hm hg ha
  refine Evt.succ ?_
  simp only[e211Laq]
  refine Evt.ifT (decide_eq_true (by omega)) ?_
  by_cases h:x.k=3
  ·obtain⟨a,b,hx,hga,hgb⟩:=pi_form hg h
   refine Evt.ifF (by simp[h]) ?_
   rw[hx,splT_pi]
   refine Evt.pure (a:=a) rfl (Evt.pure (gapp_ok (by simp<;>omega)) (Evt.pure (a:=b) rfl ?_))
   rw[w64_nat v (by omega)]
   refine(ih (v+1) (acc++[a]) b (by omega) hgb (by simp<;>omega)).eq ?_
   cases splT m b<;>simp[splR]
  ·rw[splT_not h,splR]
   exact Evt.ifT (by simp[h]) Evt.ret
def splitT(t:Tm)(n:Int):List Tm×Tm×Int:=
 if shapedT t=true then(if n<0 then([],zT,5)else if n>24 then([],zT,2)else splR [] (splT n.toNat t))else([],zT,5)
theorem ev_Split(t:Tm)(n:Int)(ho:t.Ok):Evt (fun q=>e211 q t n) (splitT t n):=by
 simp only[e211]
 refine(ev_Shaped t ho).bind ?_
 unfold splitT
 by_cases h:shapedT t=true
 ·rw[if_pos h]
  refine Evt.ifT h ?_
  by_cases h1:n<0
  ·rw[if_pos h1];exact Evt.ifT (decide_eq_true h1) Evt.ret
  ·rw[if_neg h1]
   refine Evt.ifF (decide_eq_false h1) ?_
   by_cases h2:n>24
   ·rw[if_pos h2];exact Evt.ifT (decide_eq_true h2) Evt.ret
   ·rw[if_neg h2]
    refine Evt.ifF (decide_eq_false h2) ((ev_Copy t ho).bind ?_)
    unfold copT
    rw[if_pos h]
    have:=ev_SplitL n.toNat (by omega) n.toNat 0 [] t (by omega) (shapedT_spec h).2.2 (by simp)
    rw[show ((n.toNat:Nat):Int)=n by omega]at this
    exact this
 ·rw[if_neg h];exact Evt.ifF (by simpa using h) Evt.ret
def pisT:Tm->Nat
 | .mk k _ [_,b]=>if k=3 then pisT b+1 else 0
 |_=>0
theorem pisT_pi(m:Int)(a b:Tm):pisT (.mk 3 m [a,b])=pisT b+1:=by rw[pisT,if_pos rfl]
theorem pisT_k{t:Tm}(h:t.k≠3):pisT t=0:=by
 unfold pisT
 split
 ·exact if_neg h
 ·rfl
theorem pisT_len{t:Tm}(h:t.sub.length≠2):pisT t=0:=by
 unfold pisT
 split
 ·exact absurd rfl h
 ·rfl
def wholeT(t:Tm):List Tm×Tm×Int:=splitT t ((min (pisT t) 25:Nat):Int)
theorem ev_WholeL(p:Tm)(ho:p.Ok):∀(m v:Nat) (x:Tm),v+m=25->Evt (fun q=>e286Lar q p (v:Int) x.k x.n x.sub) (splitT p ((min (v+pisT x) 25:Nat):Int)):=by
 intro m
 induction m with
 |zero=>
  intro v x hm
  refine Evt.succ ?_
  simp only[e286Lar]
  have hv:v=25:=by omega
  subst hv
  have hsp:Evt (fun q=>e211 q p ((25:Nat):Int)>>=fun r6=>some (r6.1,r6.2.1,r6.2.2)) (splitT p ((min (25+pisT x) 25:Nat):Int)):=
   ((ev_Split p _ ho).bind Evt.ret).eq (by rw[show min (25+pisT x) 25=25 by omega])
  exact Evt.iff (fun _=>Evt.iff (fun _=>Evt.ifF rfl hsp) fun _=>hsp) fun _=>hsp
 |succ m ih=>
  intro v x hm
  refine Evt.succ ?_
  simp only[e286Lar]
  have hsp:pisT x=0->Evt (fun q=>e211 q p (v:Int)>>=fun r6=>some (r6.1,r6.2.1,r6.2.2)) (splitT p ((min (v+pisT x) 25:Nat):Int)):=fun h=>
   ((ev_Split p _ ho).bind Evt.ret).eq (by rw[h,show min (v+0) 25=v by omega])
  by_cases h3:x.k=3
  ·refine Evt.ifT (by simp[h3]) ?_
   by_cases h2:x.sub.length=2
   ·refine Evt.ifT (by simp[h2]) (Evt.ifT (decide_eq_true (by omega)) ?_)
    obtain⟨k,n,l⟩:=x
    replace h3:k=3:=h3
    subst h3
    obtain⟨a,b,rfl⟩:=sub2 h2
    refine Evt.pure (a:=b) rfl ?_
    rw[w64_nat v (by omega),pisT_pi]
    exact(ih (v+1) b (by omega)).eq (by rw[show v+1+pisT b=v+(pisT b+1) by omega])
   ·exact Evt.ifF (by simp<;>omega) (hsp (pisT_len h2))
  ·exact Evt.ifF (by simp[h3]) (hsp (pisT_k h3))
theorem ev_Whole(t:Tm)(ho:t.Ok):Evt (fun q=>e286 q t) (wholeT t):=by
 simp only[e286]
 exact(ev_WholeL t ho 25 0 t rfl).eq (by unfold wholeT;simp)
theorem splT_spec:∀(n:Nat) (t:Tm) (r:List Tm×Tm),goodT t=true->splT n t=some r->r.1.length=n∧pisT t=n+pisT r.2∧(goodT r.2=true∧r.2.nodes≤t.nodes∧r.2.high≤t.high)∧∀x∈r.1,goodT x=true∧x.nodes≤t.nodes∧x.high≤t.high
 |0,t,r,hg,h=>by
  rw[splT]at h;cases h
  exact⟨rfl,by simp,⟨hg,Nat.le_refl _,Nat.le_refl _⟩,fun x hx=>by cases hx⟩
 |n+1,t,r,hg,h=>by
  by_cases h3:t.k=3
  ·obtain⟨a,b,hx,hga,hgb⟩:=pi_form hg h3
   rw[hx]at h ⊢
   rw[splT_pi]at h
   obtain⟨r',h1,rfl⟩:=Option.map_eq_some_iff.1 h
   have ih:=splT_spec n b r' hgb h1
   rw[pisT_pi]
   simp only[Tm.nodes,nodesL,Tm.high,highL]
   refine⟨by simp[ih.1],by omega,⟨ih.2.2.1.1,by omega,by omega⟩,fun x hx=>?_⟩
   rcases List.mem_cons.1 hx with rfl|hx
   ·exact⟨hga,by omega,by omega⟩
   ·have:=ih.2.2.2 x hx;exact⟨this.1,by omega,by omega⟩
  ·rw[splT_not h3]at h;cases h
theorem splT_all:∀t:Tm,goodT t=true->∀n≤pisT t,∃r,splT n t=some r:=by
 intro t hg n
 induction n generalizing t with
 |zero=>intro _;exact⟨_,rfl⟩
 |succ n ih=>
  intro h
  by_cases h3:t.k=3
  ·obtain⟨a,b,hx,hga,hgb⟩:=pi_form hg h3
   rw[hx,pisT_pi]at h
   obtain⟨r,hr⟩:=ih b hgb (by omega)
   exact⟨_,by rw[hx,splT_pi,hr];rfl⟩
  ·rw[pisT_k h3]at h;omega
theorem splitT_ok{t:Tm}{n:Int}{l:List Tm}{y:Tm}(h:splitT t n=(l,y,0)):shapedT t=true∧0≤n∧n≤24∧(l.length:Int)=n∧pisT t=l.length+pisT y∧shapedT y=true∧∀x∈l,shapedT x=true:=by
 unfold splitT at h
 split at h
 ·rename_i hs
  split at h
  ·simp at h
  ·split at h
   ·simp at h
   ·cases hr:splT n.toNat t with
    |none=>rw[hr]at h;simp[splR]at h
    |some r=>
     rw[hr]at h
     simp only[splR,List.nil_append,Prod.mk.injEq,and_true]at h
     obtain⟨rfl,rfl⟩:=h
     have hsp:=shapedT_spec hs
     have:=splT_spec _ _ _ hsp.2.2 hr
     refine⟨hs,by omega,by omega,by omega,by omega,shapedT_of (by omega) (by omega) this.2.2.1.1,fun x hx=>?_⟩
     have hx:=this.2.2.2 x hx
     exact shapedT_of (by omega) (by omega) hx.1
 ·simp at h
theorem wholeT_ok{t:Tm}{l:List Tm}{y:Tm}(h:wholeT t=(l,y,0)):shapedT t=true∧l.length=pisT t∧l.length≤24∧pisT y=0∧shapedT y=true∧∀x∈l,shapedT x=true:=by
 have:=splitT_ok h
 refine⟨this.1,by omega,by omega,by omega,this.2.2.2.2.2.1,this.2.2.2.2.2.2⟩
def varsD:List Tm->Int->Bool
 | [],_=>true
 |a::l,n=>a.k==1&&a.n==n&&varsD l (n-1)
def appliedT(t:Tm)(of pars more binders:Int):Bool:=
 (hdT t).k==6&&(hdT t).n==of&&((arT t).length:Int)==pars+more&&varsD ((arT t).take pars.toNat) (binders-1)
theorem ev_appliedL(p:Tm×List Tm)(P:Nat)(binders:Int)(hP:P≤p.2.length)(hl:p.2.length≤8192)(hb:-1152921504606846976≤binders∧binders≤1152921504606846976):∀(m v:Nat),v+m=P ->
  Evt (fun q=>e328Las q (P:Int) binders p (v:Int)) (varsD ((p.2.take P).drop v) (binders-1-v)):=by
 intro m
 induction m with
 |zero=>
  intro v hm
  refine Evt.succ ?_
  simp only[e328Las]
  refine Evt.ifF (decide_eq_false (by omega)) (Evt.ret.eq ?_)
  rw[List.drop_eq_nil_of_le (by simp<;>omega),varsD]
 |succ m ih=>
  intro v hm
  refine Evt.succ ?_
  simp only[e328Las]
  have hv:v<(p.2.take P).length:=by simp<;>omega
  have hd:=List.drop_eq_getElem_cons hv
  have hg:gidx p.2 (v:Int)=some (p.2.take P)[v]:=by
   unfold gidx
   rw[if_pos (by omega),show (v:Int).toNat=v by omega,List.getElem?_eq_getElem (by omega)]
   simp
  generalize (p.2.take P)[v]=x at hd hg
  refine Evt.ifT (decide_eq_true (by omega)) (Evt.pure hg ?_)
  rw[hd,varsD,w64_id (x:=binders-1) (by omega) (by omega),w64_id (x:=binders-1-v) (by omega) (by omega)]
  by_cases h1:x.k=1
  ·refine Evt.ifF (by simp[h1]) ?_
   by_cases h2:x.n=binders-1-v
   ·refine Evt.ifF (by simp[h2]) ?_
    rw[w64_nat v (by omega)]
    refine(ih (v+1) (by omega)).eq ?_
    rw[show binders-1-((v+1:Nat):Int)=binders-1-v-1 by omega]
    simp[h1,h2]
   ·exact Evt.ifT (by simp[h2]) (Evt.ret.eq (by simp[h2]))
  ·exact Evt.ifT (by simp[h1]) (Evt.ret.eq (by simp[h1]))
theorem ev_applied(t:Tm)(of pars more binders:Int)(hs:shapedT t=true)(h0:0≤pars∧pars≤1152921504606846976)(h1:0≤more∧more≤1152921504606846976)(hb:-1152921504606846976≤binders∧binders≤1152921504606846976) :
  Evt (fun q=>e328 q t of pars more binders) (appliedT t of pars more binders):=by
 simp only[e328]
 refine(ev_Spine t hs).bind ?_
 unfold appliedT
 by_cases h2:(hdT t).k=6
 ·refine Evt.ifF (by simp[h2]) ?_
  by_cases h3:(hdT t).n=of
  ·refine Evt.ifF (by simp[h3]) ?_
   rw[w64_id (x:=pars+more) (by omega) (by omega)]
   by_cases h4:((arT t).length:Int)=pars+more
   ·refine Evt.ifF (by simp[h4]) ?_
    have hl:=ar_len t (shapedT_spec hs).2.2
    have hn:=(shapedT_spec hs).1
    have:=ev_appliedL (hdT t,arT t) pars.toNat binders (by show _≤(arT t).length;omega) (by show (arT t).length≤_;omega) hb pars.toNat 0 (by omega)
    rw[show ((pars.toNat:Nat):Int)=pars by omega]at this
    exact this.eq (by simp[h2,h3,h4])
   ·exact Evt.ifT (by simp[h4]) (Evt.ret.eq (by simp[h4]))
  ·exact Evt.ifT (by simp[h3]) (Evt.ret.eq (by simp[h3]))
 ·exact Evt.ifT (by simp[h2]) (Evt.ret.eq (by simp[h2]))
def e222Lat:Nat->(List ByteArray)->Int->(List (ByteArray×Int))->Option (Bool)
 |0,_,_,_=>none
 |qq+1,p0,v9,vb0_0=>
 if decide (v9<(List.length p0:Int))then
 gidx p0 v9>>=fun x2=>
 if decide ((mget vb0_0 x2)>0)then
 some false
 else
 e222Lat qq p0 (w64 (v9+1)) (mset vb0_0 x2 (w64 ((mget vb0_0 x2)+1)))
 else
 some true
def e222(qq:Nat)(p0:List ByteArray):Option (Bool):=
 e222Lat qq p0 0 ([]:List (ByteArray×Int))
def g222LatE0(j:Nat->Value)(p0:List ByteArray)(v9:Int)(vb0_0:List (ByteArray×Int)):=sp j 22 0 [(3,.obj 0),(7,slv strC p0 .no),(8,ai (List.length p0:Int)),(9,ai v9)]
def g222LatS0(p0:List ByteArray)(v9:Int)(vb0_0:List (ByteArray×Int)):LSt:=⟨[(0,smap vb0_0)],1,[],0,[]⟩
abbrev K222 (p0:List ByteArray) (r:Bool) (C:Cf):Prop:=C 222 [] [slv strC p0 .no] (ab r) [] 0
theorem q222:Qf 222 Tryz.f222:=⟨Tryz.func222,by kernel_rfl⟩
theorem k222{p0 r}(h:K222 p0 r Ci):K222 p0 r Ct:=⟨h,⟨⟨tv,dS _⟩,tv⟩,forall_nil,tv,forall_nil⟩
theorem l222Lat:∀qq:Nat,(∀p0 v9 vb0_0 r,e222Lat qq p0 v9 vb0_0=some r->(∀j,Dl Tryz.prog 0 (inn (inn (rgt (lft (rgt (rgt (bod Tryz.f222))))))) (g222LatE0 j p0 v9 vb0_0) (g222LatS0 p0 v9 vb0_0) (frameQ Tryz.prog 0 (FinQ Tryz.prog 0 Tryz.f222 (ab r) [] 0) [.blk 0,.seq (rgt (rgt (rgt (bod Tryz.f222))))]))):=by
 intro qq
 induction qq with
 |zero=>
  exact fun _ _ _ _ h=>nn h
 |succ qq ih=>
  intro p0 v9 vb0_0 r h
  rw[e222Lat]at h
  rcases spl h with⟨h1,h⟩|⟨h1,h⟩
  obtain⟨x2,h3,h⟩:=obind h
  have k:=oL 1 (lk354 vb0_0 x2)<|oA 0 (ix141 (o:=.no) h3)<|oB 0 h1 o0
  rcases spl h with⟨h4,h⟩|⟨h4,h⟩
  obtain rfl:=sj h
  exact fun j=>lF 0 [] (oB 0 h4 k)
  exact fun j=>lH 1 [] [0] [] [3,7,8,9] (oD (dS p0)<|oU 1 (mu354 vb0_0 x2 (w64 ((mget vb0_0 x2)+1)))<|oL 0 (lk354 vb0_0 x2)<|oB 0 h4 k) (ih _ _ _ _ h)
  obtain rfl:=sj h
  exact fun j=>lF 0 [] (oB 0 h1 o0)
theorem c222{qq p0 r}(h:e222 qq p0=some r):K222 p0 r Ct:=by
 unfold e222 at h
 exact k222 (tH q222 1 [] [0] [] [3,7,8,9] (oD (dS p0) o0) (l222Lat _ _ _ _ _ h))
def e353(qq:Nat)(p0:Int):Option (Bool):=
 if decide (p0≥0)then
 if decide (p0≤1114111)then
 if decide (p0<55296)then
 some true
 else
 some (decide (p0>57343))
 else
 some false
 else
 some false
abbrev K353 (p0:Int) (r:Bool) (C:Cf):Prop:=C 353 [] [ai p0] (ab r) [] 0
theorem q353:Qf 353 Tryz.f353:=⟨Tryz.func353,by kernel_rfl⟩
theorem k353{p0 r}(h:K353 p0 r Ci):K353 p0 r Ct:=⟨h,⟨tv,tv⟩,forall_nil,tv,forall_nil⟩
theorem c353{qq p0 r}(h:e353 qq p0=some r):K353 p0 r Ct:=by
 unfold e353 at h
 rcases spl h with⟨h1,h⟩|⟨h1,h⟩
 have k:=oB 0 h1 o0
 rcases spl h with⟨h2,h⟩|⟨h2,h⟩
 have k:=oB 0 h2 k
 rcases spl h with⟨h3,h⟩|⟨h3,h⟩
 obtain rfl:=sj h
 exact k353 (tF q353 0 [] (oB 0 h3 k))
 obtain rfl:=sj h
 exact k353 (tF q353 1 [] (oB 0 h3 k))
 obtain rfl:=sj h
 exact k353 (tF q353 0 [] (oB 0 h2 k))
 obtain rfl:=sj h
 exact k353 (tF q353 0 [] (oB 0 h1 o0))
def e379(qq:Nat)(p0:U8):Option (Int×Int):=
 if decide (p0<128)then
 some (1,(w64 (p0)))
 else
 if decide (p0≥192)then
 if decide (p0<224)then
 some (2,(w64 ((IntKind.u8.wrap ((BitVec.ofInt (IntKind.bits .u8) p0 &&& BitVec.ofInt (IntKind.bits .u8) 31).toNat:Nat)))))
 else
 if decide (p0≥224)then
 if decide (p0<240)then
 some (3,(w64 ((IntKind.u8.wrap ((BitVec.ofInt (IntKind.bits .u8) p0 &&& BitVec.ofInt (IntKind.bits .u8) 15).toNat:Nat)))))
 else
 if decide (p0≥240)then
 if decide (p0<248)then
 some (4,(w64 ((IntKind.u8.wrap ((BitVec.ofInt (IntKind.bits .u8) p0 &&& BitVec.ofInt (IntKind.bits .u8) 7).toNat:Nat)))))
 else
 some (0,0)
 else
 some (0,0)
 else
 if decide (p0≥240)then
 if decide (p0<248)then
 some (4,(w64 ((IntKind.u8.wrap ((BitVec.ofInt (IntKind.bits .u8) p0 &&& BitVec.ofInt (IntKind.bits .u8) 7).toNat:Nat)))))
 else
 some (0,0)
 else
 some (0,0)
 else
 if decide (p0≥224)then
 if decide (p0<240)then
 some (3,(w64 ((IntKind.u8.wrap ((BitVec.ofInt (IntKind.bits .u8) p0 &&& BitVec.ofInt (IntKind.bits .u8) 15).toNat:Nat)))))
 else
 if decide (p0≥240)then
 if decide (p0<248)then
 some (4,(w64 ((IntKind.u8.wrap ((BitVec.ofInt (IntKind.bits .u8) p0 &&& BitVec.ofInt (IntKind.bits .u8) 7).toNat:Nat)))))
 else
 some (0,0)
 else
 some (0,0)
 else
 if decide (p0≥240)then
 if decide (p0<248)then
 some (4,(w64 ((IntKind.u8.wrap ((BitVec.ofInt (IntKind.bits .u8) p0 &&& BitVec.ofInt (IntKind.bits .u8) 7).toNat:Nat)))))
 else
 some (0,0)
 else
 some (0,0)
abbrev K379 (p0:U8) (r:Int×Int) (C:Cf):Prop:=C 379 [] [.val (.int .u8 p0)] (.tup [ai r.1,ai r.2]) [] 0
theorem q379:Qf 379 Tryz.f379:=⟨Tryz.func379,by kernel_rfl⟩
theorem k379{p0 r}(h:K379 p0 r Ci):K379 p0 r Ct:=⟨h,⟨tv,tv⟩,forall_nil,⟨tv,tv,tv⟩,forall_nil⟩
theorem c379{qq p0 r}(h:e379 qq p0=some r):K379 p0 r Ct:=by
 unfold e379 at h
 rcases spl h with⟨h1,h⟩|⟨h1,h⟩
 obtain rfl:=sj h
 exact k379 (tF q379 1 [] (oB 0 h1 o0))
 have k:=oB 0 h1 o0
 rcases spl h with⟨h2,h⟩|⟨h2,h⟩
 have k:=oB 0 h2 k
 rcases spl h with⟨h3,h⟩|⟨h3,h⟩
 obtain rfl:=sj h
 exact k379 (tF q379 2 [] (oB 0 h3 k))
 have k:=oB 0 h3 k
 rcases spl h with⟨h4,h⟩|⟨h4,h⟩
 have k:=oB 0 h4 k
 rcases spl h with⟨h5,h⟩|⟨h5,h⟩
 obtain rfl:=sj h
 exact k379 (tF q379 2 [] (oB 0 h5 k))
 have k:=oB 0 h5 k
 rcases spl h with⟨h6,h⟩|⟨h6,h⟩
 have k:=oB 0 h6 k
 rcases spl h with⟨h7,h⟩|⟨h7,h⟩
 obtain rfl:=sj h
 exact k379 (tF q379 2 [] (oB 0 h7 k))
 obtain rfl:=sj h
 exact k379 (tF q379 0 [] (oB 0 h7 k))
 obtain rfl:=sj h
 exact k379 (tF q379 0 [] (oB 0 h6 k))
 have k:=oB 0 h4 k
 rcases spl h with⟨h8,h⟩|⟨h8,h⟩
 have k:=oB 0 h8 k
 rcases spl h with⟨h9,h⟩|⟨h9,h⟩
 obtain rfl:=sj h
 exact k379 (tF q379 2 [] (oB 0 h9 k))
 obtain rfl:=sj h
 exact k379 (tF q379 0 [] (oB 0 h9 k))
 obtain rfl:=sj h
 exact k379 (tF q379 0 [] (oB 0 h8 k))
 have k:=oB 0 h2 k
 rcases spl h with⟨h10,h⟩|⟨h10,h⟩
 have k:=oB 0 h10 k
 rcases spl h with⟨h11,h⟩|⟨h11,h⟩
 obtain rfl:=sj h
 exact k379 (tF q379 2 [] (oB 0 h11 k))
 have k:=oB 0 h11 k
 rcases spl h with⟨h12,h⟩|⟨h12,h⟩
 have k:=oB 0 h12 k
 rcases spl h with⟨h13,h⟩|⟨h13,h⟩
 obtain rfl:=sj h
 exact k379 (tF q379 2 [] (oB 0 h13 k))
 obtain rfl:=sj h
 exact k379 (tF q379 0 [] (oB 0 h13 k))
 obtain rfl:=sj h
 exact k379 (tF q379 0 [] (oB 0 h12 k))
 have k:=oB 0 h10 k
 rcases spl h with⟨h14,h⟩|⟨h14,h⟩
 have k:=oB 0 h14 k
 rcases spl h with⟨h15,h⟩|⟨h15,h⟩
 obtain rfl:=sj h
 exact k379 (tF q379 2 [] (oB 0 h15 k))
 obtain rfl:=sj h
 exact k379 (tF q379 0 [] (oB 0 h15 k))
 obtain rfl:=sj h
 exact k379 (tF q379 0 [] (oB 0 h14 k))
def e380(qq:Nat)(p0:Int):Option (Int):=
 if decide (p0≥65536)then
 some 4
 else
 if decide (p0≥2048)then
 some 3
 else
 if decide (p0≥128)then
 some 2
 else
 some 1
abbrev K380 (p0 r:Int) (C:Cf):Prop:=C 380 [] [ai p0] (ai r) [] 0
theorem q380:Qf 380 Tryz.f380:=⟨Tryz.func380,by kernel_rfl⟩
theorem k380{p0 r}(h:K380 p0 r Ci):K380 p0 r Ct:=⟨h,⟨tv,tv⟩,forall_nil,tv,forall_nil⟩
theorem c380{qq p0 r}(h:e380 qq p0=some r):K380 p0 r Ct:=by
 unfold e380 at h
 rcases spl h with⟨h1,h⟩|⟨h1,h⟩
 obtain rfl:=sj h
 exact k380 (tF q380 3 [] (oB 0 h1 o0))
 have k:=oB 0 h1 o0
 rcases spl h with⟨h2,h⟩|⟨h2,h⟩
 obtain rfl:=sj h
 exact k380 (tF q380 2 [] (oB 0 h2 k))
 have k:=oB 0 h2 k
 rcases spl h with⟨h3,h⟩|⟨h3,h⟩
 obtain rfl:=sj h
 exact k380 (tF q380 1 [] (oB 0 h3 k))
 obtain rfl:=sj h
 exact k380 (tF q380 0 [] (oB 0 h3 k))
def e351Lau:Nat->ByteArray->Int->(Int×Int)->Int->Int->Option (Int×Int×Int)
 |0,_,_,_,_,_=>none
 |qq+1,p0,p1,r5,v8,v9=>
 if decide (v9<r5.1)then
 gbyte p0 (w64 (p1+v9))>>=fun x10=>
 if (IntKind.u8.wrap ((BitVec.ofInt (IntKind.bits .u8) x10 &&& BitVec.ofInt (IntKind.bits .u8) 192).toNat:Nat)) != 128 then
 some (0,0,1)
 else
 e351Lau qq p0 p1 r5 (IntKind.i64.wrap ((BitVec.ofInt (IntKind.bits .i64) (w64 (v8*2 ^ (min (Int.toNat 6) (IntKind.bits .i64)))) ||| BitVec.ofInt (IntKind.bits .i64) (w64 ((IntKind.u8.wrap ((BitVec.ofInt (IntKind.bits .u8) x10 &&& BitVec.ofInt (IntKind.bits .u8) 63).toNat:Nat))))).toNat:Nat)) (w64 (v9+1))
 else
 e353 qq v8>>=fun r13=>
 if r13 then
 e380 qq v8>>=fun r16=>
 if r16 != r5.1 then
 some (0,0,1)
 else
 some (v8,r5.1,0)
 else
 some (0,0,1)
def e351(qq:Nat)(p0:ByteArray)(p1:Int):Option (Int×Int×Int):=
 if decide (p1<0)then
 some (0,0,1)
 else
 if decide (p1≥(p0.size:Int))then
 some (0,0,1)
 else
 gbyte p0 p1>>=fun x3=>
 e379 qq x3>>=fun r5=>
 if r5.1==0 then
 some (0,0,1)
 else
 if decide (r5.1>(w64 ((p0.size:Int)-p1)))then
 some (0,0,1)
 else
 e351Lau qq p0 p1 r5 r5.2 1
def g351LauE0(j:Nat->Value)(p0:ByteArray)(p1:Int)(r5:Int×Int)(v8 v9:Int):=sp j 66 0 [(0,at' p0),(1,ai p1),(7,ai r5.1),(8,ai v8),(9,ai v9)]
def g351LauS0(p0:ByteArray)(p1:Int)(r5:Int×Int)(v8 v9:Int):LSt:=⟨[],0,[],0,[]⟩
abbrev K351 (p0:ByteArray) (p1:Int) (r:Int×Int×Int) (C:Cf):Prop:=C 351 [] [at' p0,ai p1] (.tup [ai r.1,ai r.2.1,ai r.2.2]) [] 0
theorem q351:Qf 351 Tryz.f351:=⟨Tryz.func351,by kernel_rfl⟩
theorem k351{p0 p1 r}(h:K351 p0 p1 r Ci):K351 p0 p1 r Ct:=⟨h,⟨tv,tv,tv⟩,forall_nil,⟨tv,tv,tv,tv⟩,forall_nil⟩
theorem l351Lau:∀qq:Nat,(∀p0 p1 r5 v8 v9 r,e351Lau qq p0 p1 r5 v8 v9=some r->(∀j,Dl Tryz.prog 0 (inn (inn (rgt (lft (rgt (rgt (rgt (rgt (bod Tryz.f351))))))))) (g351LauE0 j p0 p1 r5 v8 v9) (g351LauS0 p0 p1 r5 v8 v9) (frameQ Tryz.prog 0 (FinQ Tryz.prog 0 Tryz.f351 (.tup [ai r.1,ai r.2.1,ai r.2.2]) [] 0) [.blk 0,.seq (rgt (rgt (rgt (rgt (rgt (bod Tryz.f351))))))]))):=by
 intro qq
 induction qq with
 |zero=>
  exact fun _ _ _ _ _ _ h=>nn h
 |succ qq ih=>
  intro p0 p1 r5 v8 v9 r h
  rw[e351Lau]at h
  rcases spl h with⟨h9,h⟩|⟨h9,h⟩
  obtain⟨x10,h11,h⟩:=obind h
  have k:=oA 1 (ixStr9 h11)<|oB 0 h9 o0
  rcases spl h with⟨h12,h⟩|⟨h12,h⟩
  obtain rfl:=sj h
  exact fun j=>lF 0 [] (oB 1 h12 k)
  exact fun j=>lH 5 [] [] [] [0,1,7,8,9] (oB 1 h12 k) (ih _ _ _ _ _ _ h)
  obtain⟨r13,h14,h⟩:=obind h
  have k:=oB 0 h9 o0
  rcases spl h with⟨h15,h⟩|⟨h15,h⟩
  obtain⟨r16,h17,h⟩:=obind h
  have k:=oC 1 [] (c380 h17)<|oK 0 [] h15 (c353 h14) k
  rcases spl h with⟨h18,h⟩|⟨h18,h⟩
  obtain rfl:=sj h
  exact fun j=>lF 0 [] (oB 0 h18 k)
  obtain rfl:=sj h
  exact fun j=>lF 0 [] (oB 0 h18 k)
  obtain rfl:=sj h
  exact fun j=>lF 1 [] (oK 0 [] h15 (c353 h14) k)
theorem c351{qq p0 p1 r}(h:e351 qq p0 p1=some r):K351 p0 p1 r Ct:=by
 unfold e351 at h
 rcases spl h with⟨h1,h⟩|⟨h1,h⟩
 obtain rfl:=sj h
 exact k351 (tF q351 0 [] (oB 0 h1 o0))
 have k:=oB 0 h1 o0
 rcases spl h with⟨h2,h⟩|⟨h2,h⟩
 obtain rfl:=sj h
 exact k351 (tF q351 0 [] (oB 1 h2 k))
 obtain⟨x3,h4,h⟩:=obind h
 obtain⟨r5,h6,h⟩:=obind h
 have k:=oC 0 [] (c379 h6)<|oA 0 (ixStr9 h4)<|oB 1 h2 k
 rcases spl h with⟨h7,h⟩|⟨h7,h⟩
 obtain rfl:=sj h
 exact k351 (tF q351 0 [] (oB 2 h7 k))
 have k:=oB 2 h7 k
 rcases spl h with⟨h8,h⟩|⟨h8,h⟩
 obtain rfl:=sj h
 exact k351 (tF q351 0 [] (oB 2 h8 k))
 exact k351 (tH q351 0 [] [] [] [0,1,7,8,9] (oB 2 h8 k) (l351Lau _ _ _ _ _ _ _ h))
def e320Lav:Nat->ByteArray->(List Int)->Int->Option (List Int×Int×Int)
 |0,_,_,_=>none
 |qq+1,p0,v5,v6=>
 if decide (v6<(p0.size:Int))then
 e351 qq p0 v6>>=fun r3=>
 if r3.2.2 != 0 then
 some ([],v6,r3.2.2)
 else
 gapp 8 v5 [r3.1]>>=fun l6=>
 e320Lav qq p0 l6 (w64 (v6+r3.2.1))
 else
 some (v5,(p0.size:Int),0)
def e320(qq:Nat)(p0:ByteArray):Option (List Int×Int×Int):=
 if decide ((p0.size:Int)>65535)then
 some ([],0,2)
 else
 e320Lav qq p0 [] 0
def g320LavE0(j:Nat->Value)(p0:ByteArray)(v5:List Int)(v6:Int):=sp j 38 0 [(0,at' p0),(5,slv intC v5 (.st 0 1)),(6,ai v6)]
def g320LavS0(p0:ByteArray)(v5:List Int)(v6:Int):LSt:=⟨[],0,[0],1,[]⟩
abbrev K320 (p0:ByteArray) (r:List Int×Int×Int) (C:Cf):Prop:=C 320 [] [at' p0] (.tup [.sl (flat intC r.1) (List.length r.1) .no,ai r.2.1,ai r.2.2]) [] 0
theorem q320:Qf 320 Tryz.f320:=⟨Tryz.func320,by kernel_rfl⟩
theorem k320{p0 r}(h:K320 p0 r Ci):K320 p0 r Ct:=⟨h,⟨tv,tv⟩,forall_nil,⟨dI _,tv,tv,tv⟩,forall_nil⟩
theorem l320Lav:∀qq:Nat,(∀p0 v5 v6 r,e320Lav qq p0 v5 v6=some r->(∀j,Dl Tryz.prog 0 (inn (inn (rgt (lft (rgt (rgt (rgt (bod Tryz.f320)))))))) (g320LavE0 j p0 v5 v6) (g320LavS0 p0 v5 v6) (frameQ Tryz.prog 0 (FinQ Tryz.prog 0 Tryz.f320 (.tup [.sl (flat intC r.1) (List.length r.1) .no,ai r.2.1,ai r.2.2]) [] 0) [.blk 0,.seq (rgt (rgt (rgt (rgt (bod Tryz.f320)))))]))):=by
 intro qq
 induction qq with
 |zero=>
  exact fun _ _ _ _ h=>nn h
 |succ qq ih=>
  intro p0 v5 v6 r h
  rw[e320Lav]at h
  rcases spl h with⟨h2,h⟩|⟨h2,h⟩
  obtain⟨r3,h4,h⟩:=obind h
  have k:=oC 0 [] (c351 h4)<|oB 1 h2 o0
  rcases spl h with⟨h5,h⟩|⟨h5,h⟩
  obtain rfl:=sj h
  exact fun j=>lF 0 [] (oD (dI ([]:List Int))<|oB 3 h5 k)
  obtain⟨l6,h7,h⟩:=obind h
  exact fun j=>lH 1 [] [] [1] [0,5,6] (oD (dI l6)<|oP 1 (apS41 h7 (by simp))<|oB 3 h5 k) (ih _ _ _ _ h)
  obtain rfl:=sj h
  exact fun j=>lF 1 [] (oD (dI v5)<|oB 1 h2 o0)
theorem c320{qq p0 r}(h:e320 qq p0=some r):K320 p0 r Ct:=by
 unfold e320 at h
 rcases spl h with⟨h1,h⟩|⟨h1,h⟩
 obtain rfl:=sj h
 exact k320 (tF q320 0 [] (oD (dI ([]:List Int))<|oB 1 h1 o0))
 exact k320 (tH q320 0 [(none,5,1)] [] [0] [0,5,6] (oD (dI ([]:List Int))<|oB 1 h1 o0) (l320Lav _ _ _ _ _ h))
def e321(qq:Nat)(p0:ByteArray):Option (Bool):=
 if p0.toList==(⟨#[100,97,116,97]⟩:ByteArray).toList then
 some true
 else
 if p0.toList==(⟨#[114,101,99,111,114,100]⟩:ByteArray).toList then
 some true
 else
 if p0.toList==(⟨#[100,101,102]⟩:ByteArray).toList then
 some true
 else
 if p0.toList==(⟨#[83,101,116]⟩:ByteArray).toList then
 some true
 else
 some false
abbrev K321 (p0:ByteArray) (r:Bool) (C:Cf):Prop:=C 321 [] [at' p0] (ab r) [] 0
theorem q321:Qf 321 Tryz.f321:=⟨Tryz.func321,by kernel_rfl⟩
theorem k321{p0 r}(h:K321 p0 r Ci):K321 p0 r Ct:=⟨h,⟨tv,tv⟩,forall_nil,tv,forall_nil⟩
theorem c321{qq p0 r}(h:e321 qq p0=some r):K321 p0 r Ct:=by
 unfold e321 at h
 rcases spl h with⟨h1,h⟩|⟨h1,h⟩
 obtain rfl:=sj h
 exact k321 (tF q321 0 [] (oB 0 h1 o0))
 have k:=oB 0 h1 o0
 rcases spl h with⟨h2,h⟩|⟨h2,h⟩
 obtain rfl:=sj h
 exact k321 (tF q321 0 [] (oB 0 h2 k))
 have k:=oB 0 h2 k
 rcases spl h with⟨h3,h⟩|⟨h3,h⟩
 obtain rfl:=sj h
 exact k321 (tF q321 0 [] (oB 0 h3 k))
 have k:=oB 0 h3 k
 rcases spl h with⟨h4,h⟩|⟨h4,h⟩
 obtain rfl:=sj h
 exact k321 (tF q321 0 [] (oB 0 h4 k))
 obtain rfl:=sj h
 exact k321 (tF q321 0 [] (oB 0 h4 k))
def e354(qq:Nat)(p0:Int):Option (Bool):=
 if p0==40 then
 some true
 else
 if p0==41 then
 some true
 else
 if p0==123 then
 some true
 else
 if p0==125 then
 some true
 else
 if p0==58 then
 some true
 else
 if p0==61 then
 some true
 else
 if p0==46 then
 some true
 else
 if p0==44 then
 some true
 else
 if p0==59 then
 some true
 else
 if p0==124 then
 some true
 else
 if p0==92 then
 some true
 else
 if p0==45 then
 some true
 else
 if p0==62 then
 some true
 else
 if p0==955 then
 some true
 else
 if p0==8594 then
 some true
 else
 some false
abbrev K354 (p0:Int) (r:Bool) (C:Cf):Prop:=C 354 [] [ai p0] (ab r) [] 0
theorem q354:Qf 354 Tryz.f354:=⟨Tryz.func354,by kernel_rfl⟩
theorem k354{p0 r}(h:K354 p0 r Ci):K354 p0 r Ct:=⟨h,⟨tv,tv⟩,forall_nil,tv,forall_nil⟩
theorem c354{qq p0 r}(h:e354 qq p0=some r):K354 p0 r Ct:=by
 unfold e354 at h
 rcases spl h with⟨h1,h⟩|⟨h1,h⟩
 obtain rfl:=sj h
 exact k354 (tF q354 0 [] (oB 0 h1 o0))
 have k:=oB 0 h1 o0
 rcases spl h with⟨h2,h⟩|⟨h2,h⟩
 obtain rfl:=sj h
 exact k354 (tF q354 0 [] (oB 0 h2 k))
 have k:=oB 0 h2 k
 rcases spl h with⟨h3,h⟩|⟨h3,h⟩
 obtain rfl:=sj h
 exact k354 (tF q354 0 [] (oB 0 h3 k))
 have k:=oB 0 h3 k
 rcases spl h with⟨h4,h⟩|⟨h4,h⟩
 obtain rfl:=sj h
 exact k354 (tF q354 0 [] (oB 0 h4 k))
 have k:=oB 0 h4 k
 rcases spl h with⟨h5,h⟩|⟨h5,h⟩
 obtain rfl:=sj h
 exact k354 (tF q354 0 [] (oB 0 h5 k))
 have k:=oB 0 h5 k
 rcases spl h with⟨h6,h⟩|⟨h6,h⟩
 obtain rfl:=sj h
 exact k354 (tF q354 0 [] (oB 0 h6 k))
 have k:=oB 0 h6 k
 rcases spl h with⟨h7,h⟩|⟨h7,h⟩
 obtain rfl:=sj h
 exact k354 (tF q354 0 [] (oB 0 h7 k))
 have k:=oB 0 h7 k
 rcases spl h with⟨h8,h⟩|⟨h8,h⟩
 obtain rfl:=sj h
 exact k354 (tF q354 0 [] (oB 0 h8 k))
 have k:=oB 0 h8 k
 rcases spl h with⟨h9,h⟩|⟨h9,h⟩
 obtain rfl:=sj h
 exact k354 (tF q354 0 [] (oB 0 h9 k))
 have k:=oB 0 h9 k
 rcases spl h with⟨h10,h⟩|⟨h10,h⟩
 obtain rfl:=sj h
 exact k354 (tF q354 0 [] (oB 0 h10 k))
 have k:=oB 0 h10 k
 rcases spl h with⟨h11,h⟩|⟨h11,h⟩
 obtain rfl:=sj h
 exact k354 (tF q354 0 [] (oB 0 h11 k))
 have k:=oB 0 h11 k
 rcases spl h with⟨h12,h⟩|⟨h12,h⟩
 obtain rfl:=sj h
 exact k354 (tF q354 0 [] (oB 0 h12 k))
 have k:=oB 0 h12 k
 rcases spl h with⟨h13,h⟩|⟨h13,h⟩
 obtain rfl:=sj h
 exact k354 (tF q354 0 [] (oB 0 h13 k))
 have k:=oB 0 h13 k
 rcases spl h with⟨h14,h⟩|⟨h14,h⟩
 obtain rfl:=sj h
 exact k354 (tF q354 0 [] (oB 0 h14 k))
 have k:=oB 0 h14 k
 rcases spl h with⟨h15,h⟩|⟨h15,h⟩
 obtain rfl:=sj h
 exact k354 (tF q354 0 [] (oB 0 h15 k))
 obtain rfl:=sj h
 exact k354 (tF q354 0 [] (oB 0 h15 k))
def e323(qq:Nat)(p0:Int):Option (Bool):=
 if decide (p0<128)then
 if decide (p0≥97)then
 if decide (p0≤122)then
 some true
 else
 if decide (p0≥65)then
 some (decide (p0≤90))
 else
 some false
 else
 if decide (p0≥65)then
 some (decide (p0≤90))
 else
 some false
 else
 e353 qq p0>>=fun r6=>
 if r6 then
 e354 qq p0>>=fun r9=>
 if r9 then
 some false
 else
 if p0 != 160 then
 if decide (p0<8192)then
 some true
 else
 some (decide (p0>8303))
 else
 some false
 else
 some false
abbrev K323 (p0:Int) (r:Bool) (C:Cf):Prop:=C 323 [] [ai p0] (ab r) [] 0
theorem q323:Qf 323 Tryz.f323:=⟨Tryz.func323,by kernel_rfl⟩
theorem k323{p0 r}(h:K323 p0 r Ci):K323 p0 r Ct:=⟨h,⟨tv,tv⟩,forall_nil,tv,forall_nil⟩
theorem c323{qq p0 r}(h:e323 qq p0=some r):K323 p0 r Ct:=by
 unfold e323 at h
 rcases spl h with⟨h1,h⟩|⟨h1,h⟩
 have k:=oB 0 h1 o0
 rcases spl h with⟨h2,h⟩|⟨h2,h⟩
 have k:=oB 0 h2 k
 rcases spl h with⟨h3,h⟩|⟨h3,h⟩
 obtain rfl:=sj h
 exact k323 (tF q323 0 [] (oB 0 h3 k))
 have k:=oB 0 h3 k
 rcases spl h with⟨h4,h⟩|⟨h4,h⟩
 obtain rfl:=sj h
 exact k323 (tF q323 1 [] (oB 0 h4 k))
 obtain rfl:=sj h
 exact k323 (tF q323 0 [] (oB 0 h4 k))
 have k:=oB 0 h2 k
 rcases spl h with⟨h5,h⟩|⟨h5,h⟩
 obtain rfl:=sj h
 exact k323 (tF q323 1 [] (oB 0 h5 k))
 obtain rfl:=sj h
 exact k323 (tF q323 0 [] (oB 0 h5 k))
 obtain⟨r6,h7,h⟩:=obind h
 have k:=oB 0 h1 o0
 rcases spl h with⟨h8,h⟩|⟨h8,h⟩
 obtain⟨r9,h10,h⟩:=obind h
 have k:=oK 0 [] h8 (c353 h7) k
 rcases spl h with⟨h11,h⟩|⟨h11,h⟩
 obtain rfl:=sj h
 exact k323 (tF q323 1 [] (oK 0 [] h11 (c354 h10) k))
 have k:=oK 0 [] h11 (c354 h10) k
 rcases spl h with⟨h12,h⟩|⟨h12,h⟩
 have k:=oB 1 h12 k
 rcases spl h with⟨h13,h⟩|⟨h13,h⟩
 obtain rfl:=sj h
 exact k323 (tF q323 0 [] (oB 0 h13 k))
 obtain rfl:=sj h
 exact k323 (tF q323 1 [] (oB 0 h13 k))
 obtain rfl:=sj h
 exact k323 (tF q323 0 [] (oB 1 h12 k))
 obtain rfl:=sj h
 exact k323 (tF q323 0 [] (oK 0 [] h8 (c353 h7) k))
def e352(qq:Nat)(p0:Int):Option (Bool):=
 if decide (p0≥48)then
 some (decide (p0≤57))
 else
 some false
abbrev K352 (p0:Int) (r:Bool) (C:Cf):Prop:=C 352 [] [ai p0] (ab r) [] 0
theorem q352:Qf 352 Tryz.f352:=⟨Tryz.func352,by kernel_rfl⟩
theorem k352{p0 r}(h:K352 p0 r Ci):K352 p0 r Ct:=⟨h,⟨tv,tv⟩,forall_nil,tv,forall_nil⟩
theorem c352{qq p0 r}(h:e352 qq p0=some r):K352 p0 r Ct:=by
 unfold e352 at h
 rcases spl h with⟨h1,h⟩|⟨h1,h⟩
 obtain rfl:=sj h
 exact k352 (tF q352 1 [] (oB 0 h1 o0))
 obtain rfl:=sj h
 exact k352 (tF q352 0 [] (oB 0 h1 o0))
def e322(qq:Nat)(p0:Int):Option (Bool):=
 e323 qq p0>>=fun r1=>
 if r1 then
 some true
 else
 e352 qq p0>>=fun r4=>
 if r4 then
 some true
 else
 if p0==95 then
 some true
 else
 some (p0==39)
abbrev K322 (p0:Int) (r:Bool) (C:Cf):Prop:=C 322 [] [ai p0] (ab r) [] 0
theorem q322:Qf 322 Tryz.f322:=⟨Tryz.func322,by kernel_rfl⟩
theorem k322{p0 r}(h:K322 p0 r Ci):K322 p0 r Ct:=⟨h,⟨tv,tv⟩,forall_nil,tv,forall_nil⟩
theorem c322{qq p0 r}(h:e322 qq p0=some r):K322 p0 r Ct:=by
 unfold e322 at h
 obtain⟨r1,h2,h⟩:=obind h
 rcases spl h with⟨h3,h⟩|⟨h3,h⟩
 obtain rfl:=sj h
 exact k322 (tF q322 0 [] (oK 0 [] h3 (c323 h2) o0))
 obtain⟨r4,h5,h⟩:=obind h
 have k:=oK 0 [] h3 (c323 h2) o0
 rcases spl h with⟨h6,h⟩|⟨h6,h⟩
 obtain rfl:=sj h
 exact k322 (tF q322 0 [] (oK 0 [] h6 (c352 h5) k))
 have k:=oK 0 [] h6 (c352 h5) k
 rcases spl h with⟨h7,h⟩|⟨h7,h⟩
 obtain rfl:=sj h
 exact k322 (tF q322 0 [] (oB 0 h7 k))
 obtain rfl:=sj h
 exact k322 (tF q322 1 [] (oB 0 h7 k))
def e280Law:Nat->(List Int×Int×Int)->Int->Option (Bool)
 |0,_,_=>none
 |qq+1,r1,v32=>
 if decide (v32<(List.length r1.1:Int))then
 gidx r1.1 v32>>=fun x10=>
 e322 qq x10>>=fun r12=>
 if r12 then
 e280Law qq r1 (w64 (v32+1))
 else
 some false
 else
 gidx r1.1 0>>=fun x15=>
 e323 qq x15>>=fun r17=>
 if r17 then
 some true
 else
 if x15==95 then
 some (decide ((List.length r1.1:Int)>1))
 else
 some false
def e280(qq:Nat)(p0:ByteArray):Option (Bool):=
 e320 qq p0>>=fun r1=>
 if r1.2.2 != 0 then
 some false
 else
 if (List.length r1.1:Int)==0 then
 some false
 else
 if decide ((p0.size:Int)>40)then
 some false
 else
 e321 qq p0>>=fun r6=>
 if r6 then
 some false
 else
 e280Law qq r1 0
def g280LawE0(j:Nat->Value)(r1:List Int×Int×Int)(v32:Int):=sp j 55 0 [(3,slv intC r1.1 .no),(30,slv intC r1.1 .no),(31,ai (List.length r1.1:Int)),(32,ai v32)]
def g280LawS0(r1:List Int×Int×Int)(v32:Int):LSt:=⟨[],0,[],0,[]⟩
abbrev K280 (p0:ByteArray) (r:Bool) (C:Cf):Prop:=C 280 [] [at' p0] (ab r) [] 0
theorem q280:Qf 280 Tryz.f280:=⟨Tryz.func280,by kernel_rfl⟩
theorem k280{p0 r}(h:K280 p0 r Ci):K280 p0 r Ct:=⟨h,⟨tv,tv⟩,forall_nil,tv,forall_nil⟩
theorem l280Law:∀qq:Nat,(∀r1 v32 r,e280Law qq r1 v32=some r->(∀j,Dl Tryz.prog 0 (inn (inn (rgt (lft (rgt (rgt (rgt (bod Tryz.f280)))))))) (g280LawE0 j r1 v32) (g280LawS0 r1 v32) (frameQ Tryz.prog 0 (FinQ Tryz.prog 0 Tryz.f280 (ab r) [] 0) [.blk 0,.seq (rgt (rgt (rgt (rgt (bod Tryz.f280)))))]))):=by
 intro qq
 induction qq with
 |zero=>
  exact fun _ _ _ h=>nn h
 |succ qq ih=>
  intro r1 v32 r h
  rw[e280Law]at h
  rcases spl h with⟨h9,h⟩|⟨h9,h⟩
  obtain⟨x10,h11,h⟩:=obind h
  obtain⟨r12,h13,h⟩:=obind h
  have k:=oA 0 (ix41 (o:=.no) h11)<|oB 0 h9 o0
  rcases spl h with⟨h14,h⟩|⟨h14,h⟩
  exact fun j=>lH 2 [] [] [] [3,30,31,32] (oD (dI r1.1)<|oD (dI r1.1)<|oK 1 [] h14 (c322 h13) k) (ih _ _ _ h)
  obtain rfl:=sj h
  exact fun j=>lF 1 [] (oK 1 [] h14 (c322 h13) k)
  obtain⟨x15,h16,h⟩:=obind h
  obtain⟨r17,h18,h⟩:=obind h
  have k:=oA 0 (ix41 (o:=.no) h16)<|oB 0 h9 o0
  rcases spl h with⟨h19,h⟩|⟨h19,h⟩
  obtain rfl:=sj h
  exact fun j=>lF 0 [] (oK 1 [] h19 (c323 h18) k)
  have k:=oA 0 (ix41 (o:=.no) h16)<|oK 1 [] h19 (c323 h18) k
  rcases spl h with⟨h20,h⟩|⟨h20,h⟩
  obtain rfl:=sj h
  exact fun j=>lF 2 [] (oB 1 h20 k)
  obtain rfl:=sj h
  exact fun j=>lF 0 [] (oB 1 h20 k)
theorem c280{qq p0 r}(h:e280 qq p0=some r):K280 p0 r Ct:=by
 unfold e280 at h
 obtain⟨r1,h2,h⟩:=obind h
 have k:=oC 0 [] (c320 h2) o0
 rcases spl h with⟨h3,h⟩|⟨h3,h⟩
 obtain rfl:=sj h
 exact k280 (tF q280 0 [] (oB 3 h3 k))
 have k:=oB 3 h3 k
 rcases spl h with⟨h4,h⟩|⟨h4,h⟩
 obtain rfl:=sj h
 exact k280 (tF q280 0 [] (oB 1 h4 k))
 have k:=oB 1 h4 k
 rcases spl h with⟨h5,h⟩|⟨h5,h⟩
 obtain rfl:=sj h
 exact k280 (tF q280 0 [] (oB 1 h5 k))
 obtain⟨r6,h7,h⟩:=obind h
 have k:=oB 1 h5 k
 rcases spl h with⟨h8,h⟩|⟨h8,h⟩
 obtain rfl:=sj h
 exact k280 (tF q280 0 [] (oK 0 [] h8 (c321 h7) k))
 exact k280 (tH q280 1 [] [] [] [3,30,31,32] (oD (dI r1.1)<|oD (dI r1.1)<|oK 0 [] h8 (c321 h7) k) (l280Law _ _ _ _ h))
theorem tot_lead(c:Int):Tot (fun q=>e379 q c) fun r=>0≤r.1∧r.1≤4:=by
 simp only[e379]
 repeat' (first|exact Tot.ret ⟨by simp,by simp⟩|refine Tot.ite (fun _=>?_) (fun _=>?_))
theorem tot_width(n:Int):Tot (fun q=>e380 q n) fun _=>True:=by
 simp only[e380]
 repeat' (first|exact Tot.ret trivial|refine Tot.ite (fun _=>?_) (fun _=>?_))
theorem tot_uRight(n:Int):Tot (fun q=>e353 q n) fun _=>True:=by
 simp only[e353]
 repeat' (first|exact Tot.ret trivial|refine Tot.ite (fun _=>?_) (fun _=>?_))
theorem gbyte_ok{s:ByteArray}{i:Int}(h0:0≤i)(h1:i<s.size):∃c,gbyte s i=some c:=by
 unfold gbyte
 simp[h0,h1]
theorem tot_NextL(s:ByteArray)(a:Int)(w:Int×Int)(ha:0≤a)(hs:s.size≤65535)(hw:a+w.1≤s.size)(hw1:1≤w.1):∀(m:Nat) (i n:Int),1≤i->i+m=w.1->Tot (fun q=>e351Lau q s a w n i) fun r=>r.2.2=0->r.2.1=w.1:=by
 intro m
 induction m with
 |zero=>
  intro i n hi hm
  refine Tot.succ ?_
  simp only[e351Lau]
  refine Tot.ite (fun h=>absurd (of_decide_eq_true h) (by omega)) fun _=>(tot_uRight n).bind fun b _=>?_
  refine Tot.ite (fun _=>(tot_width n).bind fun c _=>Tot.ite (fun _=>Tot.ret (by simp)) fun _=>Tot.ret (by simp)) fun _=>Tot.ret (by simp)
 |succ m ih=>
  intro i n hi hm
  refine Tot.succ ?_
  simp only[e351Lau]
  obtain⟨c,hc⟩:=gbyte_ok (s:=s) (i:=a+i) (by omega) (by omega)
  refine Tot.ite (fun _=>Tot.pure (a:=c) (by rw[w64_id (by omega) (by omega)];exact hc) (Tot.ite (fun _=>Tot.ret (by simp)) fun _=>?_)) fun h=>absurd (of_decide_eq_false h) (by omega)
  rw[w64_id (x:=i+1) (by omega) (by omega)]
  exact ih (i+1) _ (by omega) (by omega)
theorem tot_Next(s:ByteArray)(a:Int)(ha:0≤a)(hs:s.size≤65535):Tot (fun q=>e351 q s a) fun r=>r.2.2=0->1≤r.2.1∧a+r.2.1≤s.size:=by
 simp only[e351]
 refine Tot.ite (fun _=>Tot.ret (by simp)) fun _=>Tot.ite (fun _=>Tot.ret (by simp)) fun h=>?_
 have h1:=of_decide_eq_false h
 obtain⟨c,hc⟩:=gbyte_ok (s:=s) (i:=a) ha (by omega)
 refine Tot.pure hc ((tot_lead c).bind fun w hw=>Tot.ite (fun _=>Tot.ret (by simp)) fun h2=>Tot.ite (fun _=>Tot.ret (by simp)) fun h3=>?_)
 have h4:=of_decide_eq_false h3
 rw[w64_id (by omega) (by omega)]at h4
 have h5:w.1≠0:=by simpa using h2
 refine(tot_NextL s a w ha hs (by omega) (by omega) (w.1-1).toNat 1 w.2 (by omega) (by omega)).mono fun r hr h6=>?_
 have:=hr h6
 omega
theorem tot_AllL(s:ByteArray)(hs:s.size≤65535):∀(m:Nat) (a:Int) (acc:List Int),0≤a->a≤s.size->(s.size:Int)-a≤m->(acc.length:Int)≤a->Tot (fun q=>e320Lav q s acc a) fun r=>r.1.length≤65535:=by
 intro m
 induction m with
 |zero=>
  intro a acc h0 h1 hm hl
  refine Tot.succ ?_
  simp only[e320Lav]
  refine Tot.ite (fun h=>absurd (of_decide_eq_true h) (by omega)) fun _=>Tot.ret (by show acc.length≤65535;omega)
 |succ m ih=>
  intro a acc h0 h1 hm hl
  refine Tot.succ ?_
  simp only[e320Lav]
  refine Tot.ite (fun _=>(tot_Next s a h0 hs).bind fun r hr=>Tot.ite (fun _=>Tot.ret (by simp)) fun h=>Tot.pure (gapp_ok (by simp<;>omega)) ?_) fun _=>Tot.ret (by show acc.length≤65535;omega)
  have:=hr (by simpa using h)
  rw[w64_id (by omega) (by omega)]
  exact ih (a+r.2.1) _ (by omega) (by omega) (by omega) (by simp;omega)
theorem tot_All(s:ByteArray):Tot (fun q=>e320 q s) fun r=>r.1.length≤65535:=by
 simp only[e320]
 refine Tot.ite (fun _=>Tot.ret (by simp)) fun h=>?_
 have:=of_decide_eq_false h
 exact tot_AllL s (by omega) s.size 0 [] (by omega) (by omega) (by omega) (by simp)
theorem tot_Mark(n:Int):Tot (fun q=>e354 q n) fun _=>True:=by
 simp only[e354]
 repeat' (first|exact Tot.ret trivial|refine Tot.ite (fun _=>?_) (fun _=>?_))
theorem tot_Letter(n:Int):Tot (fun q=>e323 q n) fun _=>True:=by
 simp only[e323]
 repeat' (first|exact Tot.ret trivial|refine Tot.ite (fun _=>?_) (fun _=>?_)|refine Tot.bind (tot_uRight n) (fun _ _=>?_)|refine Tot.bind (tot_Mark n) (fun _ _=>?_))
theorem tot_Digit(n:Int):Tot (fun q=>e352 q n) fun _=>True:=by
 simp only[e352]
 repeat' (first|exact Tot.ret trivial|refine Tot.ite (fun _=>?_) (fun _=>?_))
theorem tot_inner(n:Int):Tot (fun q=>e322 q n) fun _=>True:=by
 simp only[e322]
 repeat' (first|exact Tot.ret trivial|refine Tot.ite (fun _=>?_) (fun _=>?_)|refine Tot.bind (tot_Letter n) (fun _ _=>?_)|refine Tot.bind (tot_Digit n) (fun _ _=>?_))
theorem tot_Keyword(s:ByteArray):Tot (fun q=>e321 q s) fun _=>True:=by
 simp only[e321]
 repeat' (first|exact Tot.ret trivial|refine Tot.ite (fun _=>?_) (fun _=>?_))
theorem tot_nRightL(r1:List Int×Int×Int)(h0:0<r1.1.length)(h1:r1.1.length≤65535):∀(l:List Int) (v:Nat),r1.1.drop v=l->Tot (fun q=>e280Law q r1 (v:Int)) fun _=>True
 | [],v,hd=>by
  refine Tot.succ ?_
  simp only[e280Law]
  obtain⟨y,hy⟩:∃y,gidx r1.1 0=some y:=⟨_,by unfold gidx;rw[if_pos (by omega)];exact List.getElem?_eq_getElem h0⟩
  refine Tot.ite (fun h=>?_) fun _=>Tot.pure hy ?_
  ·rw[drop_nil hd]at h;cases h
  ·repeat' (first|exact Tot.ret trivial|refine Tot.ite (fun _=>?_) (fun _=>?_)|refine Tot.bind (tot_Letter y) (fun _ _=>?_))
 |x::l,v,hd=>by
  have hlt:=drop_lt hd
  refine Tot.succ ?_
  simp only[e280Law]
  refine Tot.ite (fun _=>Tot.pure (drop_idx hd) ((tot_inner x).bind fun b _=>Tot.ite (fun _=>?_) fun _=>Tot.ret trivial)) fun h=>?_
  ·rw[w64_nat v (by omega)]
   exact tot_nRightL r1 h0 h1 l (v+1) (drop_next hd)
  ·rw[drop_dec hd]at h;cases h
theorem tot_nRight(s:ByteArray):Tot (fun q=>e280 q s) fun _=>True:=by
 simp only[e280]
 refine(tot_All s).bind fun r hr=>Tot.ite (fun _=>Tot.ret trivial) fun _=>Tot.ite (fun _=>Tot.ret trivial) fun h=>Tot.ite (fun _=>Tot.ret trivial) fun _=>(tot_Keyword s).bind fun _ _=>Tot.ite (fun _=>Tot.ret trivial) fun _=>?_
 exact tot_nRightL r (by simp at h;exact List.length_pos_iff.2 h) hr r.1 0 rfl
theorem tot_DistinctL:∀(r l:List ByteArray) (v:Nat) (m:List (ByteArray×Int)),l.drop v=r->l.length≤65535->Tot (fun q=>e222Lat q l (v:Int) m) fun _=>True
 | [],l,v,m,hd,hl=>by
  refine Tot.succ ?_
  simp only[e222Lat]
  refine Tot.ite (fun h=>?_) fun _=>Tot.ret trivial
  rw[drop_nil hd]at h;cases h
 |x::r,l,v,m,hd,hl=>by
  have hlt:=drop_lt hd
  refine Tot.succ ?_
  simp only[e222Lat]
  refine Tot.ite (fun _=>Tot.pure (drop_idx hd) (Tot.ite (fun _=>Tot.ret trivial) fun _=>?_)) fun h=>?_
  ·rw[w64_nat v (by omega)]
   exact tot_DistinctL r l (v+1) _ (drop_next hd) hl
  ·rw[drop_dec hd]at h;cases h
theorem tot_Distinct(l:List ByteArray)(hl:l.length≤65535):Tot (fun q=>e222 q l) fun _=>True:=by
 simp only[e222]
 exact tot_DistinctL l l 0 _ rfl hl
def e210(qq:Nat)(p0:List Ent)(p1 p2:Int):Option (Bool):=
 if decide (p1≥0)then
 if decide (p1<(List.length p0:Int))then
 gidx p0 p1>>=fun x3=>
 some (x3.kind==p2)
 else
 some false
 else
 some false
abbrev K210 (p0:List Ent) (p1 p2:Int) (r:Bool) (C:Cf):Prop:=C 210 [] [slv entL p0 .no,ai p1,ai p2] (ab r) [] 0
theorem q210:Qf 210 Tryz.f210:=⟨Tryz.func210,by kernel_rfl⟩
theorem k210{p0 p1 p2 r}(h:K210 p0 p1 p2 r Ci):K210 p0 p1 p2 r Ct:=⟨h,⟨⟨tv,dE _⟩,tv,tv,tv⟩,forall_nil,tv,forall_nil⟩
theorem c210{qq p0 p1 p2 r}(h:e210 qq p0 p1 p2=some r):K210 p0 p1 p2 r Ct:=by
 unfold e210 at h
 rcases spl h with⟨h1,h⟩|⟨h1,h⟩
 have k:=oB 0 h1 o0
 rcases spl h with⟨h2,h⟩|⟨h2,h⟩
 obtain⟨x3,h4,h⟩:=obind h
 obtain rfl:=sj h
 exact k210 (tF q210 2 [] (oA 0 (ix22 (o:=.no) h4)<|oB 1 h2 k))
 obtain rfl:=sj h
 exact k210 (tF q210 0 [] (oB 1 h2 k))
 obtain rfl:=sj h
 exact k210 (tF q210 0 [] (oB 0 h1 o0))
def e281(qq:Nat)(p0:Tm)(p1:Int):Option (Bool):=
 e107 qq p0 0 p1>>=fun r1=>
 if r1 then
 e174 qq p0>>=fun r4=>
 some ((List.length r4:Int)==0)
 else
 some false
abbrev K281 (p0:Tm) (p1:Int) (r:Bool) (C:Cf):Prop:=C 281 [] [tmA p0,ai p1] (ab r) [] 0
theorem q281:Qf 281 Tryz.f281:=⟨Tryz.func281,by kernel_rfl⟩
theorem k281{p0 p1 r}(h:K281 p0 p1 r Ci):K281 p0 p1 r Ct:=⟨h,⟨⟨tv,tv,⟨tv,dT _⟩,tv⟩,tv,tv⟩,forall_nil,tv,forall_nil⟩
theorem c281{qq p0 p1 r}(h:e281 qq p0 p1=some r):K281 p0 p1 r Ct:=by
 unfold e281 at h
 obtain⟨r1,h2,h⟩:=obind h
 rcases spl h with⟨h3,h⟩|⟨h3,h⟩
 obtain⟨r4,h5,h⟩:=obind h
 obtain rfl:=sj h
 exact k281 (tF q281 2 [] (oC 1 [] (c174 h5)<|oK 1 [] h3 (c107 h2) o0))
 obtain rfl:=sj h
 exact k281 (tF q281 0 [] (oK 1 [] h3 (c107 h2) o0))
def e324(qq:Nat)(p0:Tm):Option (Bool):=
 if p0.k==0 then
 if p0.n==0 then
 some ((List.length p0.sub:Int)==0)
 else
 some false
 else
 some false
abbrev K324 (p0:Tm) (r:Bool) (C:Cf):Prop:=C 324 [] [tmA p0] (ab r) [] 0
theorem q324:Qf 324 Tryz.f324:=⟨Tryz.func324,by kernel_rfl⟩
theorem k324{p0 r}(h:K324 p0 r Ci):K324 p0 r Ct:=⟨h,⟨⟨tv,tv,⟨tv,dT _⟩,tv⟩,tv⟩,forall_nil,tv,forall_nil⟩
theorem c324{qq p0 r}(h:e324 qq p0=some r):K324 p0 r Ct:=by
 unfold e324 at h
 rcases spl h with⟨h1,h⟩|⟨h1,h⟩
 have k:=oB 1 h1 o0
 rcases spl h with⟨h2,h⟩|⟨h2,h⟩
 obtain rfl:=sj h
 exact k324 (tF q324 3 [] (oB 1 h2 k))
 obtain rfl:=sj h
 exact k324 (tF q324 0 [] (oB 1 h2 k))
 obtain rfl:=sj h
 exact k324 (tF q324 0 [] (oB 1 h1 o0))
def e325Lax:Nat->(List Int)->Int->Int->Option (Bool)
 |0,_,_,_=>none
 |qq+1,p0,p1,v9=>
 if decide (v9<(List.length p0:Int))then
 gidx p0 v9>>=fun x2=>
 if x2 != (w64 (p1+v9))then
 some false
 else
 e325Lax qq p0 p1 (w64 (v9+1))
 else
 some true
def e325(qq:Nat)(p0:List Int)(p1:Int):Option (Bool):=
 e325Lax qq p0 p1 0
def g325LaxE0(j:Nat->Value)(p0:List Int)(p1 v9:Int):=sp j 20 0 [(1,ai p1),(7,slv intC p0 .no),(8,ai (List.length p0:Int)),(9,ai v9)]
def g325LaxS0(p0:List Int)(p1 v9:Int):LSt:=⟨[],0,[],0,[]⟩
abbrev K325 (p0:List Int) (p1:Int) (r:Bool) (C:Cf):Prop:=C 325 [] [slv intC p0 .no,ai p1] (ab r) [] 0
theorem q325:Qf 325 Tryz.f325:=⟨Tryz.func325,by kernel_rfl⟩
theorem k325{p0 p1 r}(h:K325 p0 p1 r Ci):K325 p0 p1 r Ct:=⟨h,⟨⟨tv,dI _⟩,tv,tv⟩,forall_nil,tv,forall_nil⟩
theorem l325Lax:∀qq:Nat,(∀p0 p1 v9 r,e325Lax qq p0 p1 v9=some r->(∀j,Dl Tryz.prog 0 (inn (inn (rgt (lft (rgt (bod Tryz.f325)))))) (g325LaxE0 j p0 p1 v9) (g325LaxS0 p0 p1 v9) (frameQ Tryz.prog 0 (FinQ Tryz.prog 0 Tryz.f325 (ab r) [] 0) [.blk 0,.seq (rgt (rgt (bod Tryz.f325)))]))):=by
 intro qq
 induction qq with
 |zero=>
  exact fun _ _ _ _ h=>nn h
 |succ qq ih=>
  intro p0 p1 v9 r h
  rw[e325Lax]at h
  rcases spl h with⟨h1,h⟩|⟨h1,h⟩
  obtain⟨x2,h3,h⟩:=obind h
  have k:=oA 0 (ix41 (o:=.no) h3)<|oB 0 h1 o0
  rcases spl h with⟨h4,h⟩|⟨h4,h⟩
  obtain rfl:=sj h
  exact fun j=>lF 0 [] (oB 2 h4 k)
  exact fun j=>lH 1 [] [] [] [1,7,8,9] (oD (dI p0)<|oB 2 h4 k) (ih _ _ _ _ h)
  obtain rfl:=sj h
  exact fun j=>lF 0 [] (oB 0 h1 o0)
theorem c325{qq p0 p1 r}(h:e325 qq p0 p1=some r):K325 p0 p1 r Ct:=by
 unfold e325 at h
 exact k325 (tH q325 1 [] [] [] [1,7,8,9] (oD (dI p0) o0) (l325Lax _ _ _ _ _ h))
def e326Lay:Nat->(List Ent)->Int->(List Int)->Int->Int->Option (Bool)
 |0,_,_,_,_,_=>none
 |qq+1,p0,p1,p2,p3,v13=>
 if decide (v13<(List.length p2:Int))then
 gidx p2 v13>>=fun x2=>
 e210 qq p0 x2 p3>>=fun r4=>
 if r4 then
 gidx p0 x2>>=fun x7=>
 if x7.fam != p1 then
 some false
 else
 if x7.place != v13 then
 some false
 else
 e326Lay qq p0 p1 p2 p3 (w64 (v13+1))
 else
 some false
 else
 some true
def e326(qq:Nat)(p0:List Ent)(p1:Int)(p2:List Int)(p3:Int):Option (Bool):=
 e326Lay qq p0 p1 p2 p3 0
def g326LayE0(j:Nat->Value)(p0:List Ent)(p1:Int)(p2:List Int)(p3 v13:Int):=sp j 42 0 [(0,slv entL p0 .no),(1,ai p1),(3,ai p3),(11,slv intC p2 .no),(12,ai (List.length p2:Int)),(13,ai v13)]
def g326LayS0(p0:List Ent)(p1:Int)(p2:List Int)(p3 v13:Int):LSt:=⟨[],0,[],0,[]⟩
abbrev K326 (p0:List Ent) (p1:Int) (p2:List Int) (p3:Int) (r:Bool) (C:Cf):Prop:=C 326 [] [slv entL p0 .no,ai p1,slv intC p2 .no,ai p3] (ab r) [] 0
theorem q326:Qf 326 Tryz.f326:=⟨Tryz.func326,by kernel_rfl⟩
theorem k326{p0 p1 p2 p3 r}(h:K326 p0 p1 p2 p3 r Ci):K326 p0 p1 p2 p3 r Ct:=⟨h,⟨⟨tv,dE _⟩,tv,⟨tv,dI _⟩,tv,tv⟩,forall_nil,tv,forall_nil⟩
theorem l326Lay:∀qq:Nat,(∀p0 p1 p2 p3 v13 r,e326Lay qq p0 p1 p2 p3 v13=some r->(∀j,Dl Tryz.prog 0 (inn (inn (rgt (lft (rgt (bod Tryz.f326)))))) (g326LayE0 j p0 p1 p2 p3 v13) (g326LayS0 p0 p1 p2 p3 v13) (frameQ Tryz.prog 0 (FinQ Tryz.prog 0 Tryz.f326 (ab r) [] 0) [.blk 0,.seq (rgt (rgt (bod Tryz.f326)))]))):=by
 intro qq
 induction qq with
 |zero=>
  exact fun _ _ _ _ _ _ h=>nn h
 |succ qq ih=>
  intro p0 p1 p2 p3 v13 r h
  rw[e326Lay]at h
  rcases spl h with⟨h1,h⟩|⟨h1,h⟩
  obtain⟨x2,h3,h⟩:=obind h
  obtain⟨r4,h5,h⟩:=obind h
  have k:=oA 0 (ix41 (o:=.no) h3)<|oB 0 h1 o0
  rcases spl h with⟨h6,h⟩|⟨h6,h⟩
  obtain⟨x7,h8,h⟩:=obind h
  have k:=oA 1 (ix22 (o:=.no) h8)<|oK 1 [] h6 (c210 h5) k
  rcases spl h with⟨h9,h⟩|⟨h9,h⟩
  obtain rfl:=sj h
  exact fun j=>lF 0 [] (oB 1 h9 k)
  have k:=oA 0 (ix22 (o:=.no) h8)<|oB 1 h9 k
  rcases spl h with⟨h10,h⟩|⟨h10,h⟩
  obtain rfl:=sj h
  exact fun j=>lF 0 [] (oB 1 h10 k)
  exact fun j=>lH 1 [] [] [] [0,1,3,11,12,13] (oD (dI p2)<|oD (dE p0)<|oB 1 h10 k) (ih _ _ _ _ _ _ h)
  obtain rfl:=sj h
  exact fun j=>lF 1 [] (oK 1 [] h6 (c210 h5) k)
  obtain rfl:=sj h
  exact fun j=>lF 0 [] (oB 0 h1 o0)
theorem c326{qq p0 p1 p2 p3 r}(h:e326 qq p0 p1 p2 p3=some r):K326 p0 p1 p2 p3 r Ct:=by
 unfold e326 at h
 exact k326 (tH q326 1 [] [] [] [0,1,3,11,12,13] (oD (dI p2)<|oD (dE p0) o0) (l326Lay _ _ _ _ _ _ _ h))
def e282(qq:Nat)(p0:List Ent)(p1:Int):Option (Bool):=
 gidx p0 p1>>=fun x1=>
 if decide (x1.pars<0)then
 some false
 else
 if decide (x1.inds<0)then
 some false
 else
 if decide (x1.pars>24)then
 some false
 else
 if decide (x1.inds>(w64 (24-x1.pars)))then
 some false
 else
 if x1.fam != 0 then
 some false
 else
 if x1.place != 0 then
 some false
 else
 e324 qq x1.body>>=fun r9=>
 if r9 then
 e211 qq x1.type (w64 (x1.pars+x1.inds))>>=fun r12=>
 if r12.2.2 != 0 then
 some false
 else
 if r12.2.1.k != 2 then
 some false
 else
 if r12.2.1.n != x1.level then
 some false
 else
 if decide ((List.length x1.cons:Int)>16)then
 some false
 else
 e325 qq x1.cons (w64 (p1+1))>>=fun r18=>
 if r18 then
 e326 qq p0 p1 x1.cons 2>>=fun r21=>
 if r21 then
 if (List.length x1.fields:Int)==0 then
 some true
 else
 if x1.inds != 0 then
 some false
 else
 if (List.length x1.cons:Int) != 1 then
 some false
 else
 e325 qq x1.fields (w64 (p1+2))>>=fun r27=>
 if r27 then
 e326 qq p0 p1 x1.fields 4>>=fun r30=>
 if r30 then
 gidx p0 (w64 (p1+1))>>=fun x33=>
 e286 qq x33.type>>=fun r35=>
 if r35.2.2==0 then
 some ((List.length r35.1:Int)==(w64 (x1.pars+(List.length x1.fields:Int))))
 else
 some false
 else
 some false
 else
 some false
 else
 some false
 else
 some false
 else
 some false
abbrev K282 (p0:List Ent) (p1:Int) (r:Bool) (C:Cf):Prop:=C 282 [] [slv entL p0 .no,ai p1] (ab r) [] 0
theorem q282:Qf 282 Tryz.f282:=⟨Tryz.func282,by kernel_rfl⟩
theorem k282{p0 p1 r}(h:K282 p0 p1 r Ci):K282 p0 p1 r Ct:=⟨h,⟨⟨tv,dE _⟩,tv,tv⟩,forall_nil,tv,forall_nil⟩
theorem c282{qq p0 p1 r}(h:e282 qq p0 p1=some r):K282 p0 p1 r Ct:=by
 unfold e282 at h
 obtain⟨x1,h2,h⟩:=obind h
 have k:=oA 0 (ix22 (o:=.no) h2) o0
 rcases spl h with⟨h3,h⟩|⟨h3,h⟩
 obtain rfl:=sj h
 exact k282 (tF q282 0 [] (oB 3 h3 k))
 have k:=oB 3 h3 k
 rcases spl h with⟨h4,h⟩|⟨h4,h⟩
 obtain rfl:=sj h
 exact k282 (tF q282 0 [] (oB 1 h4 k))
 have k:=oB 1 h4 k
 rcases spl h with⟨h5,h⟩|⟨h5,h⟩
 obtain rfl:=sj h
 exact k282 (tF q282 0 [] (oB 1 h5 k))
 have k:=oB 1 h5 k
 rcases spl h with⟨h6,h⟩|⟨h6,h⟩
 obtain rfl:=sj h
 exact k282 (tF q282 0 [] (oB 3 h6 k))
 have k:=oB 3 h6 k
 rcases spl h with⟨h7,h⟩|⟨h7,h⟩
 obtain rfl:=sj h
 exact k282 (tF q282 0 [] (oB 1 h7 k))
 have k:=oB 1 h7 k
 rcases spl h with⟨h8,h⟩|⟨h8,h⟩
 obtain rfl:=sj h
 exact k282 (tF q282 0 [] (oB 1 h8 k))
 obtain⟨r9,h10,h⟩:=obind h
 have k:=oB 1 h8 k
 rcases spl h with⟨h11,h⟩|⟨h11,h⟩
 obtain⟨r12,h13,h⟩:=obind h
 have k:=oC 5 [] (c211 h13)<|oK 1 [] h11 (c324 h10) k
 rcases spl h with⟨h14,h⟩|⟨h14,h⟩
 obtain rfl:=sj h
 exact k282 (tF q282 0 [] (oB 4 h14 k))
 have k:=oB 4 h14 k
 rcases spl h with⟨h15,h⟩|⟨h15,h⟩
 obtain rfl:=sj h
 exact k282 (tF q282 0 [] (oB 1 h15 k))
 have k:=oB 1 h15 k
 rcases spl h with⟨h16,h⟩|⟨h16,h⟩
 obtain rfl:=sj h
 exact k282 (tF q282 0 [] (oB 2 h16 k))
 have k:=oB 2 h16 k
 rcases spl h with⟨h17,h⟩|⟨h17,h⟩
 obtain rfl:=sj h
 exact k282 (tF q282 0 [] (oB 2 h17 k))
 obtain⟨r18,h19,h⟩:=obind h
 have k:=oB 2 h17 k
 rcases spl h with⟨h20,h⟩|⟨h20,h⟩
 obtain⟨r21,h22,h⟩:=obind h
 have k:=oK 2 [] h20 (c325 h19) k
 rcases spl h with⟨h23,h⟩|⟨h23,h⟩
 have k:=oK 2 [] h23 (c326 h22) k
 rcases spl h with⟨h24,h⟩|⟨h24,h⟩
 obtain rfl:=sj h
 exact k282 (tF q282 0 [] (oB 3 h24 k))
 have k:=oB 3 h24 k
 rcases spl h with⟨h25,h⟩|⟨h25,h⟩
 obtain rfl:=sj h
 exact k282 (tF q282 0 [] (oB 1 h25 k))
 have k:=oB 1 h25 k
 rcases spl h with⟨h26,h⟩|⟨h26,h⟩
 obtain rfl:=sj h
 exact k282 (tF q282 0 [] (oB 2 h26 k))
 obtain⟨r27,h28,h⟩:=obind h
 have k:=oB 2 h26 k
 rcases spl h with⟨h29,h⟩|⟨h29,h⟩
 obtain⟨r30,h31,h⟩:=obind h
 have k:=oK 2 [] h29 (c325 h28) k
 rcases spl h with⟨h32,h⟩|⟨h32,h⟩
 obtain⟨x33,h34,h⟩:=obind h
 obtain⟨r35,h36,h⟩:=obind h
 have k:=oC 1 [] (c286 h36)<|oA 2 (ix22 (o:=.no) h34)<|oK 2 [] h32 (c326 h31) k
 rcases spl h with⟨h37,h⟩|⟨h37,h⟩
 obtain rfl:=sj h
 exact k282 (tF q282 6 [] (oB 4 h37 k))
 obtain rfl:=sj h
 exact k282 (tF q282 0 [] (oB 4 h37 k))
 obtain rfl:=sj h
 exact k282 (tF q282 1 [] (oK 2 [] h32 (c326 h31) k))
 obtain rfl:=sj h
 exact k282 (tF q282 1 [] (oK 2 [] h29 (c325 h28) k))
 obtain rfl:=sj h
 exact k282 (tF q282 1 [] (oK 2 [] h23 (c326 h22) k))
 obtain rfl:=sj h
 exact k282 (tF q282 1 [] (oK 2 [] h20 (c325 h19) k))
 obtain rfl:=sj h
 exact k282 (tF q282 1 [] (oK 1 [] h11 (c324 h10) k))
def EOk(e:Ent):Prop:=e.type.Ok∧e.body.Ok∧e.cons.length≤1152921504606846976∧e.fields.length≤1152921504606846976
def zE:Ent:=Ent.mk 0 ⟨#[]⟩ zT zT 0 0 0 0 0 [] []
def ent(l:List Ent)(n:Int):Ent:=(l[n.toNat]?).getD zE
theorem gidx_ent{l:List Ent}{n:Int}(h0:0≤n)(h1:n<l.length):gidx l n=some (ent l n):=by
 unfold gidx ent
 rw[if_pos h0]
 have:n.toNat<l.length:=by omega
 rw[List.getElem?_eq_getElem this];rfl
theorem ent_mem{l:List Ent}{n:Int}(h0:0≤n)(h1:n<l.length):ent l n∈l:=by
 unfold ent
 have:n.toNat<l.length:=by omega
 rw[List.getElem?_eq_getElem this]
 exact List.getElem_mem this
def isT(l:List Ent)(n kind:Int):Bool:=decide (0≤n)&&decide (n<l.length)&&(ent l n).kind==kind
theorem isT_spec{l:List Ent}{n kind:Int}(h:isT l n kind=true):0≤n∧n<l.length∧(ent l n).kind=kind:=by
 unfold isT at h
 simp only[Bool.and_eq_true,decide_eq_true_eq,beq_iff_eq]at h
 exact⟨h.1.1,h.1.2,h.2⟩
theorem ev_is(l:List Ent)(n kind:Int):Evt (fun q=>e210 q l n kind) (isT l n kind):=by
 simp only[e210]
 unfold isT
 by_cases h0:n≥0
 ·refine Evt.ifT (decide_eq_true h0) ?_
  by_cases h1:n<l.length
  ·exact Evt.ifT (decide_eq_true h1) (Evt.pure (gidx_ent h0 h1) (Evt.ret.eq (by simp[show 0≤n from h0,h1])))
  ·exact Evt.ifF (decide_eq_false h1) (Evt.ret.eq (by simp[h1]))
 ·exact Evt.ifF (decide_eq_false h0) (Evt.ret.eq (by simp[show ¬0≤n from h0]))
def noneT(t:Tm):Bool:=t.k==0&&t.n==0&&(t.sub.length:Int)==0
theorem ev_none(t:Tm):Evt (fun q=>e324 q t) (noneT t):=by
 refine Evt.mk fun q=>?_
 unfold e324 noneT
 by_cases h1:t.k=0<;>by_cases h2:t.n=0<;>by_cases h3:t.sub.length=0<;>simp[h1,h2,h3]
def closedT'(t:Tm)(n:Int):Bool:=rightT t 0 n&&(colT t 8 8).isEmpty
theorem ev_sclosed(t:Tm)(n:Int)(ho:t.Ok):Evt (fun q=>e281 q t n) (closedT' t n):=by
 simp only[e281]
 refine(ev_Right t 0 n ho).bind ?_
 unfold closedT'
 by_cases h:rightT t 0 n=true
 ·refine Evt.ifT h ((ev_Frees t ho).bind (Evt.ret.eq ?_))
  have hs:shapedT t=true:=by
   unfold rightT at h;simp at h;exact h.1.1
  unfold numsT
  rw[if_pos hs,h,Bool.true_and,Bool.eq_iff_iff]
  simp only[beq_iff_eq,List.isEmpty_iff]
  constructor
  ·intro h6
   have h6':rise (colT t 8 8)=[]:=List.length_eq_zero_iff.1 (by omega)
   refine List.eq_nil_iff_forall_not_mem.2 fun x hx=>?_
   rw[←mem_rise,h6']at hx;cases hx
  ·intro h6
   rw[h6];rfl
 ·exact Evt.ifF (by simpa using h) (Evt.ret.eq (by simp[h]))
def runT:List Int->Int->Bool
 | [],_=>true
 |n::r,m=>n==m&&runT r (m+1)
theorem ev_srunL(l:List Int)(f:Int)(hf:0≤f∧f≤1048576)(hl:l.length≤1152921504606846976):∀(r:List Int) (v:Nat),l.drop v=r->Evt (fun q=>e325Lax q l f (v:Int)) (runT r (f+v))
 | [],v,hd=>by
  refine Evt.succ ?_
  simp only[e325Lax]
  exact Evt.ifF (drop_nil hd) Evt.ret
 |n::r,v,hd=>by
  have hlt:=drop_lt hd
  refine Evt.succ ?_
  simp only[e325Lax]
  refine Evt.ifT (drop_dec hd) (Evt.pure (drop_idx hd) ?_)
  rw[w64_id (x:=f+v) (by omega) (by omega),runT]
  by_cases h:n=f+v
  ·refine Evt.ifF (by simp[h]) ?_
   rw[w64_nat v (by omega)]
   exact(ev_srunL l f hf hl r (v+1) (drop_next hd)).eq (by rw[show f+((v+1:Nat):Int)=f+v+1 by omega];simp[h])
  ·exact Evt.ifT (by simp[h]) (Evt.ret.eq (by simp[h]))
theorem ev_srun(l:List Int)(f:Int)(hf:0≤f∧f≤1048576)(hl:l.length≤1152921504606846976):Evt (fun q=>e325 q l f) (runT l f):=by
 simp only[e325]
 exact(ev_srunL l f hf hl l 0 rfl).eq (by simp)
def memT(l:List Ent)(of kind:Int):List Int->Int->Bool
 | [],_=>true
 |n::r,k=>isT l n kind&&(ent l n).fam==of&&(ent l n).place==k&&memT l of kind r (k+1)
theorem ev_membersL(l:List Ent)(of kind:Int)(p:List Int)(hp:p.length≤1152921504606846976):∀(r:List Int) (v:Nat),p.drop v=r->Evt (fun q=>e326Lay q l of p kind (v:Int)) (memT l of kind r v)
 | [],v,hd=>by
  refine Evt.succ ?_
  simp only[e326Lay]
  exact Evt.ifF (drop_nil hd) Evt.ret
 |n::r,v,hd=>by
  have hlt:=drop_lt hd
  refine Evt.succ ?_
  simp only[e326Lay]
  refine Evt.ifT (drop_dec hd) (Evt.pure (drop_idx hd) ((ev_is l n kind).bind ?_))
  rw[memT]
  by_cases h:isT l n kind=true
  ·have hs:=isT_spec h
   refine Evt.ifT h (Evt.pure (gidx_ent hs.1 hs.2.1) ?_)
   by_cases h2:(ent l n).fam=of
   ·refine Evt.ifF (by simp[h2]) ?_
    by_cases h3:(ent l n).place=v
    ·refine Evt.ifF (by simp[h3]) ?_
     rw[w64_nat v (by omega)]
     exact(ev_membersL l of kind p hp r (v+1) (drop_next hd)).eq (by simp[h,h2,h3])
    ·exact Evt.ifT (by simp[h3]) (Evt.ret.eq (by simp[h3]))
   ·exact Evt.ifT (by simp[h2]) (Evt.ret.eq (by simp[h2]))
  ·exact Evt.ifF (by simpa using h) (Evt.ret.eq (by simp[h]))
theorem ev_members(l:List Ent)(of kind:Int)(p:List Int)(hp:p.length≤1152921504606846976):Evt (fun q=>e326 q l of p kind) (memT l of kind p 0):=by
 simp only[e326]
 exact(ev_membersL l of kind p hp p 0 rfl).eq (by simp)
def famA(x:Ent):Bool:=
 decide (0≤x.pars)&&decide (0≤x.inds)&&decide (x.pars≤24)&&decide (x.inds≤24-x.pars)&&x.fam==0&&x.place==0&&noneT x.body
def famB(x:Ent):Bool:=
 (splitT x.type (x.pars+x.inds)).2.2==0&&(splitT x.type (x.pars+x.inds)).2.1.k==2&&(splitT x.type (x.pars+x.inds)).2.1.n==x.level
def famC(l:List Ent)(i:Int)(x:Ent):Bool:=
 decide (x.cons.length≤16)&&runT x.cons (i+1)&&memT l i 2 x.cons 0
def famD(l:List Ent)(i:Int)(x:Ent):Bool:=
 x.inds==0&&decide (x.cons.length=1)&&runT x.fields (i+2)&&memT l i 4 x.fields 0&&(wholeT (ent l (i+1)).type).2.2==0&&((wholeT (ent l (i+1)).type).1.length:Int)==x.pars+x.fields.length
def familyT(l:List Ent)(i:Int):Bool:=
 famA (ent l i)&&famB (ent l i)&&famC l i (ent l i)&&(decide ((ent l i).fields.length=0)||famD l i (ent l i))
theorem ev_family(l:List Ent)(i:Int)(h0:0≤i)(h1:i<l.length)(hl:l.length≤65535)(he:∀e∈l,EOk e):Evt (fun q=>e282 q l i) (familyT l i):=by
 simp only[e282]
 refine Evt.pure (gidx_ent h0 h1) ?_
 have hx:=he _ (ent_mem h0 h1)
 have hfl:(ent l i).fields.length≤1152921504606846976:=hx.2.2.2
 unfold familyT
 by_cases hA:famA (ent l i)=true
 ·have hA':=hA
  unfold famA at hA'
  simp only[Bool.and_eq_true,decide_eq_true_eq,beq_iff_eq]at hA'
  obtain⟨⟨⟨⟨⟨⟨a1,a2⟩,a3⟩,a4⟩,a5⟩,a6⟩,a7⟩:=hA'
  refine Evt.ifF (decide_eq_false (by omega)) (Evt.ifF (decide_eq_false (by omega)) (Evt.ifF (decide_eq_false (by omega)) (Evt.ifF (decide_eq_false (by rw[w64_id (by omega) (by omega)];omega)) (Evt.ifF (by simp[a5]) (Evt.ifF (by simp[a6]) (((ev_none _).eq a7).bind (Evt.ifT rfl ?_)))))))
  rw[w64_id (by omega) (by omega)]
  refine(ev_Split (ent l i).type _ hx.1).bind ?_
  rw[hA]
  by_cases b1:(splitT (ent l i).type ((ent l i).pars+(ent l i).inds)).2.2=0
  ·refine Evt.ifF (by simp[b1]) ?_
   by_cases b2:(splitT (ent l i).type ((ent l i).pars+(ent l i).inds)).2.1.k=2
   ·refine Evt.ifF (by simp[b2]) ?_
    by_cases b3:(splitT (ent l i).type ((ent l i).pars+(ent l i).inds)).2.1.n=(ent l i).level
    ·refine Evt.ifF (by simp[b3]) ?_
     have hB:famB (ent l i)=true:=by unfold famB;simp[b1,b2,b3]
     rw[hB]
     by_cases c1:(ent l i).cons.length≤16
     ·refine Evt.ifF (decide_eq_false (by omega)) ?_
      rw[w64_id (x:=i+1) (by omega) (by omega)]
      refine(ev_srun (ent l i).cons (i+1) (by omega) (by omega)).bind ?_
      by_cases c2:runT (ent l i).cons (i+1)=true
      ·refine Evt.ifT c2 ((ev_members l i 2 (ent l i).cons (by omega)).bind ?_)
       by_cases c3:memT l i 2 (ent l i).cons 0=true
       ·refine Evt.ifT c3 ?_
        have hC:famC l i (ent l i)=true:=by unfold famC;simp[c1,c2,c3]
        rw[hC]
        by_cases d0:(ent l i).fields.length=0
        ·exact Evt.ifT (by simp[d0]) (Evt.ret.eq (by simp[d0]))
        ·refine Evt.ifF (by have h:((ent l i).fields.length:Int)≠0:=(by omega);simpa using h) ?_
         rw[show decide ((ent l i).fields.length=0)=false by simp[d0]]
         simp only[Bool.true_and,Bool.false_or]
         unfold famD
         by_cases d1:(ent l i).inds=0
         ·refine Evt.ifF (by simp[d1]) ?_
          by_cases d2:(ent l i).cons.length=1
          ·refine Evt.ifF (by simp[d2]) ?_
           rw[w64_id (x:=i+2) (by omega) (by omega)]
           refine(ev_srun (ent l i).fields (i+2) (by omega) hx.2.2.2).bind ?_
           by_cases d3:runT (ent l i).fields (i+2)=true
           ·refine Evt.ifT d3 ((ev_members l i 4 (ent l i).fields hx.2.2.2).bind ?_)
            by_cases d4:memT l i 4 (ent l i).fields 0=true
            ·have hi:i+1<l.length:=by
              obtain⟨y,hy⟩:∃y,(ent l i).cons=[y]:=by
               rcases hc:(ent l i).cons with _|⟨y,_|⟨z,r⟩⟩<;>rw[hc]at d2<;>simp at d2
               exact⟨y,rfl⟩
              rw[hy]at c2 c3
              rw[runT]at c2
              rw[memT]at c3
              simp only[Bool.and_eq_true,beq_iff_eq]at c2 c3
              have:=isT_spec c3.1.1.1
              omega
             refine Evt.ifT d4 (Evt.pure (gidx_ent (by omega) hi) ((ev_Whole _ (he _ (ent_mem (by omega) hi)).1).bind ?_))
             by_cases d5:(wholeT (ent l (i+1)).type).2.2=0
             ·refine Evt.ifT (by simp[d5]) (Evt.ret.eq ?_)
              rw[w64_id (x:=(ent l i).pars+((ent l i).fields.length:Int)) (by omega) (by omega)]
              simp[d1,d2,d3,d4,d5]
             ·exact Evt.ifF (by simp[d5]) (Evt.ret.eq (by simp[d5]))
            ·exact Evt.ifF (by simpa using d4) (Evt.ret.eq (by simp[d4]))
           ·exact Evt.ifF (by simpa using d3) (Evt.ret.eq (by simp[d3]))
          ·exact Evt.ifT (by simp<;>omega) (Evt.ret.eq (by simp[d2]))
         ·exact Evt.ifT (by simp[d1]) (Evt.ret.eq (by simp[d1]))
       ·refine Evt.ifF (by simpa using c3) (Evt.ret.eq ?_)
        unfold famC;simp[c3]
      ·refine Evt.ifF (by simpa using c2) (Evt.ret.eq ?_)
       unfold famC;simp[c2]
     ·refine Evt.ifT (decide_eq_true (by omega)) (Evt.ret.eq ?_)
      unfold famC;simp[c1]
    ·refine Evt.ifT (by simp[b3]) (Evt.ret.eq ?_)
     unfold famB;simp[b3]
   ·refine Evt.ifT (by simp[b2]) (Evt.ret.eq ?_)
    unfold famB;simp[b2]
  ·refine Evt.ifT (by simp[b1]) (Evt.ret.eq ?_)
   unfold famB;simp[b1]
 ·rw[show famA (ent l i)=false by simpa using hA]
  unfold famA at hA
  simp only[Bool.and_eq_true,decide_eq_true_eq,beq_iff_eq]at hA
  by_cases a1:(ent l i).pars<0
  ·exact Evt.ifT (decide_eq_true a1) Evt.ret
  refine Evt.ifF (decide_eq_false a1) ?_
  by_cases a2:(ent l i).inds<0
  ·exact Evt.ifT (decide_eq_true a2) Evt.ret
  refine Evt.ifF (decide_eq_false a2) ?_
  by_cases a3:(ent l i).pars>24
  ·exact Evt.ifT (decide_eq_true a3) Evt.ret
  refine Evt.ifF (decide_eq_false a3) ?_
  rw[w64_id (x:=24-(ent l i).pars) (by omega) (by omega)]
  by_cases a4:(ent l i).inds>24-(ent l i).pars
  ·exact Evt.ifT (decide_eq_true a4) Evt.ret
  refine Evt.ifF (decide_eq_false a4) ?_
  by_cases a5:(ent l i).fam=0
  ·refine Evt.ifF (by simp[a5]) ?_
   by_cases a6:(ent l i).place=0
   ·refine Evt.ifF (by simp[a6]) ((ev_none _).bind ?_)
    by_cases a7:noneT (ent l i).body=true
    ·exact absurd ⟨⟨⟨⟨⟨⟨by omega,by omega⟩,by omega⟩,by omega⟩,a5⟩,a6⟩,a7⟩ hA
    ·exact Evt.ifF (by simpa using a7) Evt.ret
   ·exact Evt.ifT (by simp[a6]) Evt.ret
  ·exact Evt.ifT (by simp[a5]) Evt.ret
def e327(qq:Nat)(p0:List Ent)(p1:Int):Option (Bool):=
 gidx p0 p1>>=fun x1=>
 e210 qq p0 x1.fam 1>>=fun r3=>
 if r3 then
 if decide (x1.fam≥p1)then
 some false
 else
 gidx p0 x1.fam>>=fun x7=>
 if x1.pars != x7.pars then
 some false
 else
 e324 qq x1.body>>=fun r10=>
 if r10 then
 if x1.inds != 0 then
 some false
 else
 if x1.level != 0 then
 some false
 else
 if decide ((w64 ((List.length x1.cons:Int)+(List.length x1.fields:Int)))>0)then
 some false
 else
 if x1.kind==4 then
 if decide (x1.place≥0)then
 if decide (x1.place<(List.length x7.fields:Int))then
 gidx x7.fields x1.place>>=fun x19=>
 some (x19==p1)
 else
 some false
 else
 some false
 else
 if decide (x1.place≥0)then
 if decide (x1.place<(List.length x7.cons:Int))then
 gidx x7.cons x1.place>>=fun x23=>
 some (x23==p1)
 else
 some false
 else
 some false
 else
 some false
 else
 some false
abbrev K327 (p0:List Ent) (p1:Int) (r:Bool) (C:Cf):Prop:=C 327 [] [slv entL p0 .no,ai p1] (ab r) [] 0
theorem q327:Qf 327 Tryz.f327:=⟨Tryz.func327,by kernel_rfl⟩
theorem k327{p0 p1 r}(h:K327 p0 p1 r Ci):K327 p0 p1 r Ct:=⟨h,⟨⟨tv,dE _⟩,tv,tv⟩,forall_nil,tv,forall_nil⟩
theorem c327{qq p0 p1 r}(h:e327 qq p0 p1=some r):K327 p0 p1 r Ct:=by
 unfold e327 at h
 obtain⟨x1,h2,h⟩:=obind h
 obtain⟨r3,h4,h⟩:=obind h
 have k:=oA 0 (ix22 (o:=.no) h2) o0
 rcases spl h with⟨h5,h⟩|⟨h5,h⟩
 have k:=oK 3 [] h5 (c210 h4) k
 rcases spl h with⟨h6,h⟩|⟨h6,h⟩
 obtain rfl:=sj h
 exact k327 (tF q327 0 [] (oB 2 h6 k))
 obtain⟨x7,h8,h⟩:=obind h
 have k:=oA 2 (ix22 (o:=.no) h8)<|oB 2 h6 k
 rcases spl h with⟨h9,h⟩|⟨h9,h⟩
 obtain rfl:=sj h
 exact k327 (tF q327 0 [] (oB 1 h9 k))
 obtain⟨r10,h11,h⟩:=obind h
 have k:=oB 1 h9 k
 rcases spl h with⟨h12,h⟩|⟨h12,h⟩
 have k:=oK 1 [] h12 (c324 h11) k
 rcases spl h with⟨h13,h⟩|⟨h13,h⟩
 obtain rfl:=sj h
 exact k327 (tF q327 0 [] (oB 2 h13 k))
 have k:=oB 2 h13 k
 rcases spl h with⟨h14,h⟩|⟨h14,h⟩
 obtain rfl:=sj h
 exact k327 (tF q327 0 [] (oB 1 h14 k))
 have k:=oB 1 h14 k
 rcases spl h with⟨h15,h⟩|⟨h15,h⟩
 obtain rfl:=sj h
 exact k327 (tF q327 0 [] (oB 5 h15 k))
 have k:=oA 1 (ix22 (o:=.no) h8)<|oB 5 h15 k
 rcases spl h with⟨h16,h⟩|⟨h16,h⟩
 have k:=oA 1 (ix22 (o:=.no) h8)<|oB 2 h16 k
 rcases spl h with⟨h17,h⟩|⟨h17,h⟩
 have k:=oB 2 h17 k
 rcases spl h with⟨h18,h⟩|⟨h18,h⟩
 obtain⟨x19,h20,h⟩:=obind h
 obtain rfl:=sj h
 exact k327 (tF q327 2 [] (oA 1 (ix41 (o:=.no) h20)<|oB 2 h18 k))
 obtain rfl:=sj h
 exact k327 (tF q327 0 [] (oB 2 h18 k))
 obtain rfl:=sj h
 exact k327 (tF q327 0 [] (oB 2 h17 k))
 have k:=oB 2 h16 k
 rcases spl h with⟨h21,h⟩|⟨h21,h⟩
 have k:=oB 1 h21 k
 rcases spl h with⟨h22,h⟩|⟨h22,h⟩
 obtain⟨x23,h24,h⟩:=obind h
 obtain rfl:=sj h
 exact k327 (tF q327 2 [] (oA 1 (ix41 (o:=.no) h24)<|oB 2 h22 k))
 obtain rfl:=sj h
 exact k327 (tF q327 0 [] (oB 2 h22 k))
 obtain rfl:=sj h
 exact k327 (tF q327 0 [] (oB 1 h21 k))
 obtain rfl:=sj h
 exact k327 (tF q327 1 [] (oK 1 [] h12 (c324 h11) k))
 obtain rfl:=sj h
 exact k327 (tF q327 1 [] (oK 3 [] h5 (c210 h4) k))
def e283(qq:Nat)(p0:List Ent)(p1:Int):Option (Bool):=
 gidx p0 p1>>=fun x1=>
 e286 qq x1.type>>=fun r3=>
 e327 qq p0 p1>>=fun r5=>
 if r5 then
 if r3.2.2==0 then
 if decide ((List.length r3.1:Int)≥x1.pars)then
 gidx p0 x1.fam>>=fun x10=>
 e328 qq r3.2.1 x1.fam x1.pars x10.inds (List.length r3.1:Int)>>=fun r12=>
 some r12
 else
 some false
 else
 some false
 else
 some false
abbrev K283 (p0:List Ent) (p1:Int) (r:Bool) (C:Cf):Prop:=C 283 [] [slv entL p0 .no,ai p1] (ab r) [] 0
theorem q283:Qf 283 Tryz.f283:=⟨Tryz.func283,by kernel_rfl⟩
theorem k283{p0 p1 r}(h:K283 p0 p1 r Ci):K283 p0 p1 r Ct:=⟨h,⟨⟨tv,dE _⟩,tv,tv⟩,forall_nil,tv,forall_nil⟩
theorem c283{qq p0 p1 r}(h:e283 qq p0 p1=some r):K283 p0 p1 r Ct:=by
 unfold e283 at h
 obtain⟨x1,h2,h⟩:=obind h
 obtain⟨r3,h4,h⟩:=obind h
 obtain⟨r5,h6,h⟩:=obind h
 have k:=oC 1 [] (c286 h4)<|oA 0 (ix22 (o:=.no) h2) o0
 rcases spl h with⟨h7,h⟩|⟨h7,h⟩
 have k:=oK 4 [] h7 (c327 h6) k
 rcases spl h with⟨h8,h⟩|⟨h8,h⟩
 have k:=oA 1 (ix22 (o:=.no) h2)<|oB 0 h8 k
 rcases spl h with⟨h9,h⟩|⟨h9,h⟩
 obtain⟨x10,h11,h⟩:=obind h
 obtain⟨r12,h13,h⟩:=obind h
 obtain rfl:=sj h
 exact k283 (tF q283 0 [] (oC 2 [] (c328 h13)<|oA 1 (ix22 (o:=.no) h11)<|oA 1 (ix22 (o:=.no) h2)<|oA 1 (ix22 (o:=.no) h2)<|oA 1 (ix22 (o:=.no) h2)<|oB 1 h9 k))
 obtain rfl:=sj h
 exact k283 (tF q283 0 [] (oB 1 h9 k))
 obtain rfl:=sj h
 exact k283 (tF q283 0 [] (oB 0 h8 k))
 obtain rfl:=sj h
 exact k283 (tF q283 0 [] (oK 4 [] h7 (c327 h6) k))
def e284(qq:Nat)(p0:List Ent)(p1:Int):Option (Bool):=
 e327 qq p0 p1>>=fun r1=>
 if r1 then
 gidx p0 p1>>=fun x4=>
 e211 qq x4.type (w64 (x4.pars+1))>>=fun r6=>
 if r6.2.2==0 then
 gidx r6.1 x4.pars>>=fun x9=>
 e328 qq x9 x4.fam x4.pars 0 x4.pars>>=fun r11=>
 some r11
 else
 some false
 else
 some false
abbrev K284 (p0:List Ent) (p1:Int) (r:Bool) (C:Cf):Prop:=C 284 [] [slv entL p0 .no,ai p1] (ab r) [] 0
theorem q284:Qf 284 Tryz.f284:=⟨Tryz.func284,by kernel_rfl⟩
theorem k284{p0 p1 r}(h:K284 p0 p1 r Ci):K284 p0 p1 r Ct:=⟨h,⟨⟨tv,dE _⟩,tv,tv⟩,forall_nil,tv,forall_nil⟩
theorem c284{qq p0 p1 r}(h:e284 qq p0 p1=some r):K284 p0 p1 r Ct:=by
 unfold e284 at h
 obtain⟨r1,h2,h⟩:=obind h
 rcases spl h with⟨h3,h⟩|⟨h3,h⟩
 obtain⟨x4,h5,h⟩:=obind h
 obtain⟨r6,h7,h⟩:=obind h
 have k:=oC 2 [] (c211 h7)<|oA 1 (ix22 (o:=.no) h5)<|oA 1 (ix22 (o:=.no) h5)<|oK 0 [] h3 (c327 h2) o0
 rcases spl h with⟨h8,h⟩|⟨h8,h⟩
 obtain⟨x9,h10,h⟩:=obind h
 obtain⟨r11,h12,h⟩:=obind h
 obtain rfl:=sj h
 exact k284 (tF q284 0 [] (oC 1 [] (c328 h12)<|oA 1 (ix22 (o:=.no) h5)<|oA 1 (ix22 (o:=.no) h5)<|oA 1 (ix22 (o:=.no) h5)<|oA 1 (ix23 (o:=.no) h10)<|oA 0 (ix22 (o:=.no) h5)<|oB 4 h8 k))
 obtain rfl:=sj h
 exact k284 (tF q284 0 [] (oB 4 h8 k))
 obtain rfl:=sj h
 exact k284 (tF q284 1 [] (oK 0 [] h3 (c327 h2) o0))
def e285(qq:Nat)(p0:List Ent)(p1:Int):Option (Bool):=
 gidx p0 p1>>=fun x1=>
 e281 qq x1.body p1>>=fun r3=>
 if r3 then
 if x1.fam==0 then
 if x1.place==0 then
 if x1.pars==0 then
 if x1.inds==0 then
 if x1.level==0 then
 some ((w64 ((List.length x1.cons:Int)+(List.length x1.fields:Int)))==0)
 else
 some false
 else
 some false
 else
 some false
 else
 some false
 else
 some false
 else
 some false
abbrev K285 (p0:List Ent) (p1:Int) (r:Bool) (C:Cf):Prop:=C 285 [] [slv entL p0 .no,ai p1] (ab r) [] 0
theorem q285:Qf 285 Tryz.f285:=⟨Tryz.func285,by kernel_rfl⟩
theorem k285{p0 p1 r}(h:K285 p0 p1 r Ci):K285 p0 p1 r Ct:=⟨h,⟨⟨tv,dE _⟩,tv,tv⟩,forall_nil,tv,forall_nil⟩
theorem c285{qq p0 p1 r}(h:e285 qq p0 p1=some r):K285 p0 p1 r Ct:=by
 unfold e285 at h
 obtain⟨x1,h2,h⟩:=obind h
 obtain⟨r3,h4,h⟩:=obind h
 have k:=oA 0 (ix22 (o:=.no) h2) o0
 rcases spl h with⟨h5,h⟩|⟨h5,h⟩
 have k:=oK 3 [] h5 (c281 h4) k
 rcases spl h with⟨h6,h⟩|⟨h6,h⟩
 have k:=oB 1 h6 k
 rcases spl h with⟨h7,h⟩|⟨h7,h⟩
 have k:=oB 1 h7 k
 rcases spl h with⟨h8,h⟩|⟨h8,h⟩
 have k:=oB 1 h8 k
 rcases spl h with⟨h9,h⟩|⟨h9,h⟩
 have k:=oB 1 h9 k
 rcases spl h with⟨h10,h⟩|⟨h10,h⟩
 obtain rfl:=sj h
 exact k285 (tF q285 6 [] (oB 1 h10 k))
 obtain rfl:=sj h
 exact k285 (tF q285 0 [] (oB 1 h10 k))
 obtain rfl:=sj h
 exact k285 (tF q285 0 [] (oB 1 h9 k))
 obtain rfl:=sj h
 exact k285 (tF q285 0 [] (oB 1 h8 k))
 obtain rfl:=sj h
 exact k285 (tF q285 0 [] (oB 1 h7 k))
 obtain rfl:=sj h
 exact k285 (tF q285 0 [] (oB 1 h6 k))
 obtain rfl:=sj h
 exact k285 (tF q285 0 [] (oK 3 [] h5 (c281 h4) k))
def ownL(l:List Ent)(x:Ent):List Int:=if x.kind=4 then(ent l x.fam).fields else(ent l x.fam).cons
def ownA(l:List Ent)(i:Int)(x:Ent):Bool:=
 isT l x.fam 1&&decide (x.fam<i)&&x.pars==(ent l x.fam).pars&&noneT x.body&&x.inds==0&&x.level==0&&decide (x.cons.length=0)&&decide (x.fields.length=0)
def ownB(l:List Ent)(i:Int)(x:Ent):Bool:=
 decide (0≤x.place)&&decide (x.place<(ownL l x).length)&&((ownL l x)[x.place.toNat]?).getD (-1)==i
def ownedT(l:List Ent)(i:Int):Bool:=ownA l i (ent l i)&&ownB l i (ent l i)
theorem gidx_getD{L:List Int}{n:Int}(h0:0≤n)(h1:n<L.length):gidx L n=some ((L[n.toNat]?).getD (-1)):=by
 unfold gidx
 rw[if_pos h0]
 have:n.toNat<L.length:=by omega
 rw[List.getElem?_eq_getElem this];rfl
theorem ev_owned(l:List Ent)(i:Int)(h0:0≤i)(h1:i<l.length)(he:∀e∈l,EOk e):Evt (fun q=>e327 q l i) (ownedT l i):=by
 simp only[e327]
 refine Evt.pure (gidx_ent h0 h1) ((ev_is l _ 1).bind ?_)
 have hx:=he _ (ent_mem h0 h1)
 have hc:(ent l i).cons.length≤1152921504606846976:=hx.2.2.1
 have hf:(ent l i).fields.length≤1152921504606846976:=hx.2.2.2
 unfold ownedT ownA
 by_cases a1:isT l (ent l i).fam 1=true
 ·have hs:=isT_spec a1
  refine Evt.ifT a1 ?_
  by_cases a2:(ent l i).fam≥i
  ·exact Evt.ifT (decide_eq_true a2) (Evt.ret.eq (by simp[show ¬(ent l i).fam<i by omega]))
  refine Evt.ifF (decide_eq_false a2) (Evt.pure (gidx_ent hs.1 hs.2.1) ?_)
  by_cases a3:(ent l i).pars=(ent l (ent l i).fam).pars
  ·refine Evt.ifF (by simp[a3]) ((ev_none _).bind ?_)
   by_cases a4:noneT (ent l i).body=true
   ·refine Evt.ifT a4 ?_
    by_cases a5:(ent l i).inds=0
    ·refine Evt.ifF (by simp[a5]) ?_
     by_cases a6:(ent l i).level=0
     ·refine Evt.ifF (by simp[a6]) ?_
      rw[w64_id (x:=((ent l i).cons.length:Int)+((ent l i).fields.length:Int)) (by omega) (by omega)]
      by_cases a7:(ent l i).cons.length=0∧(ent l i).fields.length=0
      ·refine Evt.ifF (decide_eq_false (by omega)) ?_
       have last:∀L:List Int,ownL l (ent l i)=L->Evt (fun _=>if decide ((ent l i).place≥0)=true then if decide ((ent l i).place<(List.length L:Int))=true then(gidx L (ent l i).place)>>=fun x19=>some (x19==i)else some false else some false) (ownB l i (ent l i)):=fun L hL=>by
        unfold ownB
        rw[hL]
        by_cases b1:(ent l i).place≥0
        ·refine Evt.ifT (decide_eq_true b1) ?_
         by_cases b2:(ent l i).place<(L.length:Int)
         ·exact Evt.ifT (decide_eq_true b2) (Evt.pure (gidx_getD b1 b2) (Evt.ret.eq (by simp[show 0≤(ent l i).place from b1,b2])))
         ·exact Evt.ifF (decide_eq_false b2) (Evt.ret.eq (by simp[b2]))
        ·exact Evt.ifF (decide_eq_false b1) (Evt.ret.eq (by simp[show ¬0≤(ent l i).place from b1]))
       have e:(isT l (ent l i).fam 1&&decide ((ent l i).fam<i)&&(ent l i).pars==(ent l (ent l i).fam).pars&&noneT (ent l i).body&&(ent l i).inds==0&&(ent l i).level==0&&decide ((ent l i).cons.length=0)&&decide ((ent l i).fields.length=0))=true:=by
        simp[a1,show (ent l i).fam<i by omega,a3,a4,a5,a6,a7.1,a7.2]
       rw[e,Bool.true_and]
       by_cases a8:(ent l i).kind=4
       ·exact Evt.ifT (by simp[a8]) (last _ (by unfold ownL;rw[if_pos a8]))
       ·exact Evt.ifF (by simp[a8]) (last _ (by unfold ownL;rw[if_neg a8]))
      ·refine Evt.ifT (decide_eq_true (by omega)) (Evt.ret.eq ?_)
       have:decide ((ent l i).cons.length=0)=false∨decide ((ent l i).fields.length=0)=false:=by
        by_cases h:(ent l i).cons.length=0
        ·exact .inr (decide_eq_false fun h'=>a7 ⟨h,h'⟩)
        ·exact .inl (decide_eq_false h)
       rcases this with h|h<;>rw[h]<;>simp
     ·exact Evt.ifT (by simp[a6]) (Evt.ret.eq (by simp[a6]))
    ·exact Evt.ifT (by simp[a5]) (Evt.ret.eq (by simp[a5]))
   ·exact Evt.ifF (by simpa using a4) (Evt.ret.eq (by simp[a4]))
  ·exact Evt.ifT (by simp[a3]) (Evt.ret.eq (by simp[a3]))
 ·exact Evt.ifF (by simpa using a1) (Evt.ret.eq (by simp[a1]))
theorem familyT_spec{l:List Ent}{i:Int}(h:familyT l i=true):0≤(ent l i).pars∧0≤(ent l i).inds∧(ent l i).pars+(ent l i).inds≤24∧(ent l i).cons.length≤16:=by
 unfold familyT famA famC at h
 simp only[Bool.and_eq_true,decide_eq_true_eq]at h
 exact⟨by omega,by omega,by omega,by omega⟩
theorem ownedT_spec{l:List Ent}{i:Int}(h:ownedT l i=true):0≤(ent l i).fam∧(ent l i).fam<i∧(ent l (ent l i).fam).kind=1∧(ent l i).pars=(ent l (ent l i).fam).pars∧0≤(ent l i).place∧(ent l i).place<(ownL l (ent l i)).length:=by
 unfold ownedT ownA ownB at h
 simp only[Bool.and_eq_true,decide_eq_true_eq,beq_iff_eq]at h
 have hs:=isT_spec h.1.1.1.1.1.1.1.1
 exact⟨hs.1,h.1.1.1.1.1.1.1.2,hs.2.2,h.1.1.1.1.1.1.2,h.2.1.1,h.2.1.2⟩
def FamsOk(l:List Ent)(i:Int):Prop:=∀j,0≤j->j<i->(ent l j).kind=1->familyT l j=true
def conT(l:List Ent)(i:Int):Bool:=
 ownedT l i&&((wholeT (ent l i).type).2.2==0&&(decide ((ent l i).pars≤(wholeT (ent l i).type).1.length)&&appliedT (wholeT (ent l i).type).2.1 (ent l i).fam (ent l i).pars (ent l (ent l i).fam).inds (wholeT (ent l i).type).1.length))
theorem ev_con(l:List Ent)(i:Int)(h0:0≤i)(h1:i<l.length)(he:∀e∈l,EOk e)(hF:FamsOk l i):Evt (fun q=>e283 q l i) (conT l i):=by
 simp only[e283]
 have hx:=he _ (ent_mem h0 h1)
 refine Evt.pure (gidx_ent h0 h1) ((ev_Whole _ hx.1).bind ((ev_owned l i h0 h1 he).bind ?_))
 unfold conT
 by_cases a1:ownedT l i=true
 ·have hs:=ownedT_spec a1
  have hf:=familyT_spec (hF _ hs.1 hs.2.1 hs.2.2.1)
  refine Evt.ifT a1 ?_
  rw[a1,Bool.true_and]
  by_cases a2:(wholeT (ent l i).type).2.2=0
  ·refine Evt.ifT (by simp[a2]) ?_
   have hw:=wholeT_ok (t:=(ent l i).type) (l:=(wholeT (ent l i).type).1) (y:=(wholeT (ent l i).type).2.1) (by rw[←a2])
   by_cases a3:(ent l i).pars≤(wholeT (ent l i).type).1.length
   ·refine Evt.ifT (decide_eq_true a3) (Evt.pure (gidx_ent hs.1 (by omega)) ((ev_applied _ _ _ _ _ hw.2.2.2.2.1 (by omega) (by omega) (by have:=hw.2.2.1;omega)).bind (Evt.ret.eq (by simp[a2,a3]))))
   ·exact Evt.ifF (decide_eq_false a3) (Evt.ret.eq (by simp[a3]))
  ·exact Evt.ifF (by simp[a2]) (Evt.ret.eq (by simp[a2]))
 ·exact Evt.ifF (by simpa using a1) (Evt.ret.eq (by simp[a1]))
def nth(l:List Tm)(n:Int):Tm:=(l[n.toNat]?).getD zT
theorem gidx_nth{l:List Tm}{n:Int}(h0:0≤n)(h1:n<l.length):gidx l n=some (nth l n):=by
 unfold gidx nth
 rw[if_pos h0]
 have:n.toNat<l.length:=by omega
 rw[List.getElem?_eq_getElem this];rfl
theorem nth_mem{l:List Tm}{n:Int}(h0:0≤n)(h1:n<l.length):nth l n∈l:=by
 unfold nth
 have:n.toNat<l.length:=by omega
 rw[List.getElem?_eq_getElem this]
 exact List.getElem_mem this
def projT(l:List Ent)(i:Int):Bool:=
 ownedT l i&&((splitT (ent l i).type ((ent l i).pars+1)).2.2==0&&appliedT (nth (splitT (ent l i).type ((ent l i).pars+1)).1 (ent l i).pars) (ent l i).fam (ent l i).pars 0 (ent l i).pars)
theorem ev_proj(l:List Ent)(i:Int)(h0:0≤i)(h1:i<l.length)(he:∀e∈l,EOk e)(hF:FamsOk l i):Evt (fun q=>e284 q l i) (projT l i):=by
 simp only[e284]
 have hx:=he _ (ent_mem h0 h1)
 refine(ev_owned l i h0 h1 he).bind ?_
 unfold projT
 by_cases a1:ownedT l i=true
 ·have hs:=ownedT_spec a1
  have hf:=familyT_spec (hF _ hs.1 hs.2.1 hs.2.2.1)
  refine Evt.ifT a1 (Evt.pure (gidx_ent h0 h1) ?_)
  rw[a1,Bool.true_and,w64_id (x:=(ent l i).pars+1) (by omega) (by omega)]
  refine(ev_Split _ _ hx.1).bind ?_
  by_cases a2:(splitT (ent l i).type ((ent l i).pars+1)).2.2=0
  ·have hw:=splitT_ok (t:=(ent l i).type) (n:=(ent l i).pars+1) (l:=(splitT (ent l i).type ((ent l i).pars+1)).1) (y:=(splitT (ent l i).type ((ent l i).pars+1)).2.1) (by rw[←a2])
   refine Evt.ifT (by simp[a2]) (Evt.pure (gidx_nth (by omega) (by omega)) ((ev_applied _ _ _ _ _ (hw.2.2.2.2.2.2 _ (nth_mem (by omega) (by omega))) (by omega) (by omega) (by omega)).bind (Evt.ret.eq (by simp[a2]))))
  ·exact Evt.ifF (by simp[a2]) (Evt.ret.eq (by simp[a2]))
 ·exact Evt.ifF (by simpa using a1) (Evt.ret.eq (by simp[a1]))
def defT(l:List Ent)(i:Int):Bool:=
 closedT' (ent l i).body i&&((ent l i).fam==0&&((ent l i).place==0&&((ent l i).pars==0&&((ent l i).inds==0&&((ent l i).level==0&&(decide ((ent l i).cons.length=0)&&decide ((ent l i).fields.length=0)))))))
theorem ev_def(l:List Ent)(i:Int)(h0:0≤i)(h1:i<l.length)(he:∀e∈l,EOk e):Evt (fun q=>e285 q l i) (defT l i):=by
 simp only[e285]
 have hx:=he _ (ent_mem h0 h1)
 have hc:(ent l i).cons.length≤1152921504606846976:=hx.2.2.1
 have hf:(ent l i).fields.length≤1152921504606846976:=hx.2.2.2
 refine Evt.pure (gidx_ent h0 h1) ((ev_sclosed _ i hx.2.1).bind ?_)
 unfold defT
 by_cases a1:closedT' (ent l i).body i=true
 ·refine Evt.ifT a1 ?_
  rw[a1,Bool.true_and,w64_id (x:=((ent l i).cons.length:Int)+((ent l i).fields.length:Int)) (by omega) (by omega)]
  have e:(((ent l i).cons.length:Int)+((ent l i).fields.length:Int)==0)=(decide ((ent l i).cons.length=0)&&decide ((ent l i).fields.length=0)):=by
   rw[Bool.eq_iff_iff]
   simp only[beq_iff_eq,Bool.and_eq_true,decide_eq_true_eq]
   omega
  rw[e]
  refine Evt.mk fun q=>?_
  generalize (decide ((ent l i).cons.length=0)&&decide ((ent l i).fields.length=0))=z
  by_cases b1:(ent l i).fam=0<;>by_cases b2:(ent l i).place=0<;>by_cases b3:(ent l i).pars=0<;>by_cases b4:(ent l i).inds=0<;>by_cases b5:(ent l i).level=0<;>simp[b1,b2,b3,b4,b5]
 ·exact Evt.ifF (by simpa using a1) (Evt.ret.eq (by simp[a1]))
def e223Laz:Nat->(List Ent)->(List ByteArray)->Int->Option (List ByteArray)
 |0,_,_,_=>none
 |qq+1,p0,v3,v8=>
 if decide (v8<(List.length p0:Int))then
 gidx p0 v8>>=fun x2=>
 gapp 16 v3 [x2.name]>>=fun l4=>
 e223Laz qq p0 l4 (w64 (v8+1))
 else
 some v3
def e223(qq:Nat)(p0:List Ent):Option (List ByteArray):=
 e223Laz qq p0 [] 0
def g223LazE0(j:Nat->Value)(p0:List Ent)(v3:List ByteArray)(v8:Int):=sp j 19 0 [(3,slv strC v3 (.st 0 1)),(6,slv entL p0 .no),(7,ai (List.length p0:Int)),(8,ai v8)]
def g223LazS0(p0:List Ent)(v3:List ByteArray)(v8:Int):LSt:=⟨[],0,[0],1,[]⟩
abbrev K223 (p0:List Ent) (r:List ByteArray) (C:Cf):Prop:=C 223 [] [slv entL p0 .no] (.sl (flat strC r) (List.length r) .no) [] 0
theorem q223:Qf 223 Tryz.f223:=⟨Tryz.func223,by kernel_rfl⟩
theorem k223{p0 r}(h:K223 p0 r Ci):K223 p0 r Ct:=⟨h,⟨⟨tv,dE _⟩,tv⟩,forall_nil,dS _,forall_nil⟩
theorem l223Laz:∀qq:Nat,(∀p0 v3 v8 r,e223Laz qq p0 v3 v8=some r->(∀j,Dl Tryz.prog 0 (inn (inn (rgt (lft (rgt (rgt (bod Tryz.f223))))))) (g223LazE0 j p0 v3 v8) (g223LazS0 p0 v3 v8) (frameQ Tryz.prog 0 (FinQ Tryz.prog 0 Tryz.f223 (.sl (flat strC r) (List.length r) .no) [] 0) [.blk 0,.seq (rgt (rgt (rgt (bod Tryz.f223))))]))):=by
 intro qq
 induction qq with
 |zero=>
  exact fun _ _ _ _ h=>nn h
 |succ qq ih=>
  intro p0 v3 v8 r h
  rw[e223Laz]at h
  rcases spl h with⟨h1,h⟩|⟨h1,h⟩
  obtain⟨x2,h3,h⟩:=obind h
  obtain⟨l4,h5,h⟩:=obind h
  exact fun j=>lH 1 [] [] [1] [3,6,7,8] (oD (dE p0)<|oD (dS l4)<|oP 4 (apS141 h5 (by simp))<|oA 0 (ix22 (o:=.no) h3)<|oB 0 h1 o0) (ih _ _ _ _ h)
  obtain rfl:=sj h
  exact fun j=>lF 0 [] (oD (dS v3)<|oB 0 h1 o0)
theorem c223{qq p0 r}(h:e223 qq p0=some r):K223 p0 r Ct:=by
 unfold e223 at h
 exact k223 (tH q223 1 [(none,3,1)] [] [0] [3,6,7,8] (oD (dE p0)<|oD (dS ([]:List ByteArray)) o0) (l223Laz _ _ _ _ _ h))
def e224(qq:Nat)(p0:List Ent)(p1:Int):Option (Bool):=
 gidx p0 p1>>=fun x1=>
 e280 qq x1.name>>=fun r3=>
 if r3 then
 e281 qq x1.type p1>>=fun r6=>
 if r6 then
 if x1.kind==1 then
 e282 qq p0 p1>>=fun r10=>
 some r10
 else
 if x1.kind==2 then
 e283 qq p0 p1>>=fun r13=>
 some r13
 else
 if x1.kind==4 then
 e284 qq p0 p1>>=fun r16=>
 some r16
 else
 if x1.kind==3 then
 e285 qq p0 p1>>=fun r19=>
 some r19
 else
 some false
 else
 some false
 else
 some false
abbrev K224 (p0:List Ent) (p1:Int) (r:Bool) (C:Cf):Prop:=C 224 [] [slv entL p0 .no,ai p1] (ab r) [] 0
theorem q224:Qf 224 Tryz.f224:=⟨Tryz.func224,by kernel_rfl⟩
theorem k224{p0 p1 r}(h:K224 p0 p1 r Ci):K224 p0 p1 r Ct:=⟨h,⟨⟨tv,dE _⟩,tv,tv⟩,forall_nil,tv,forall_nil⟩
theorem c224{qq p0 p1 r}(h:e224 qq p0 p1=some r):K224 p0 p1 r Ct:=by
 unfold e224 at h
 obtain⟨x1,h2,h⟩:=obind h
 obtain⟨r3,h4,h⟩:=obind h
 have k:=oA 0 (ix22 (o:=.no) h2) o0
 rcases spl h with⟨h5,h⟩|⟨h5,h⟩
 obtain⟨r6,h7,h⟩:=obind h
 have k:=oA 1 (ix22 (o:=.no) h2)<|oK 1 [] h5 (c280 h4) k
 rcases spl h with⟨h8,h⟩|⟨h8,h⟩
 have k:=oA 1 (ix22 (o:=.no) h2)<|oK 1 [] h8 (c281 h7) k
 rcases spl h with⟨h9,h⟩|⟨h9,h⟩
 obtain⟨r10,h11,h⟩:=obind h
 obtain rfl:=sj h
 exact k224 (tF q224 0 [] (oC 0 [] (c282 h11)<|oB 1 h9 k))
 have k:=oB 1 h9 k
 rcases spl h with⟨h12,h⟩|⟨h12,h⟩
 obtain⟨r13,h14,h⟩:=obind h
 obtain rfl:=sj h
 exact k224 (tF q224 0 [] (oC 0 [] (c283 h14)<|oB 0 h12 k))
 have k:=oB 0 h12 k
 rcases spl h with⟨h15,h⟩|⟨h15,h⟩
 obtain⟨r16,h17,h⟩:=obind h
 obtain rfl:=sj h
 exact k224 (tF q224 0 [] (oC 0 [] (c284 h17)<|oB 0 h15 k))
 have k:=oB 0 h15 k
 rcases spl h with⟨h18,h⟩|⟨h18,h⟩
 obtain⟨r19,h20,h⟩:=obind h
 obtain rfl:=sj h
 exact k224 (tF q224 0 [] (oC 0 [] (c285 h20)<|oB 0 h18 k))
 obtain rfl:=sj h
 exact k224 (tF q224 0 [] (oB 0 h18 k))
 obtain rfl:=sj h
 exact k224 (tF q224 1 [] (oK 1 [] h8 (c281 h7) k))
 obtain rfl:=sj h
 exact k224 (tF q224 1 [] (oK 1 [] h5 (c280 h4) k))
def e157Lba:Nat->(List Ent)->Int->Option (Bool)
 |0,_,_=>none
 |qq+1,p0,v15=>
 if decide (v15<(List.length p0:Int))then
 e224 qq p0 v15>>=fun r8=>
 if r8 then
 e157Lba qq p0 (w64 (v15+1))
 else
 some false
 else
 some true
def e157(qq:Nat)(p0:List Ent):Option (Bool):=
 if decide ((List.length p0:Int)>256)then
 some false
 else
 e223 qq p0>>=fun r2=>
 e222 qq r2>>=fun r4=>
 if r4 then
 e157Lba qq p0 0
 else
 some false
def g157LbaE0(j:Nat->Value)(p0:List Ent)(v15:Int):=sp j 23 0 [(0,slv entL p0 .no),(14,ai (List.length p0:Int)),(15,ai v15)]
def g157LbaS0(p0:List Ent)(v15:Int):LSt:=⟨[],0,[],0,[]⟩
abbrev K157 (p0:List Ent) (r:Bool) (C:Cf):Prop:=C 157 [] [slv entL p0 .no] (ab r) [] 0
theorem q157:Qf 157 Tryz.f157:=⟨Tryz.func157,by kernel_rfl⟩
theorem k157{p0 r}(h:K157 p0 r Ci):K157 p0 r Ct:=⟨h,⟨⟨tv,dE _⟩,tv⟩,forall_nil,tv,forall_nil⟩
theorem l157Lba:∀qq:Nat,(∀p0 v15 r,e157Lba qq p0 v15=some r->(∀j,Dl Tryz.prog 0 (inn (inn (rgt (lft (rgt (rgt (bod Tryz.f157))))))) (g157LbaE0 j p0 v15) (g157LbaS0 p0 v15) (frameQ Tryz.prog 0 (FinQ Tryz.prog 0 Tryz.f157 (ab r) [] 0) [.blk 0,.seq (rgt (rgt (rgt (bod Tryz.f157))))]))):=by
 intro qq
 induction qq with
 |zero=>
  exact fun _ _ _ h=>nn h
 |succ qq ih=>
  intro p0 v15 r h
  rw[e157Lba]at h
  rcases spl h with⟨h7,h⟩|⟨h7,h⟩
  obtain⟨r8,h9,h⟩:=obind h
  have k:=oB 0 h7 o0
  rcases spl h with⟨h10,h⟩|⟨h10,h⟩
  exact fun j=>lH 2 [] [] [] [0,14,15] (oD (dE p0)<|oK 0 [] h10 (c224 h9) k) (ih _ _ _ h)
  obtain rfl:=sj h
  exact fun j=>lF 1 [] (oK 0 [] h10 (c224 h9) k)
  obtain rfl:=sj h
  exact fun j=>lF 0 [] (oB 0 h7 o0)
theorem c157{qq p0 r}(h:e157 qq p0=some r):K157 p0 r Ct:=by
 unfold e157 at h
 rcases spl h with⟨h1,h⟩|⟨h1,h⟩
 obtain rfl:=sj h
 exact k157 (tF q157 0 [] (oB 1 h1 o0))
 obtain⟨r2,h3,h⟩:=obind h
 obtain⟨r4,h5,h⟩:=obind h
 have k:=oC 0 [] (c223 h3)<|oB 1 h1 o0
 rcases spl h with⟨h6,h⟩|⟨h6,h⟩
 exact k157 (tH q157 2 [] [] [] [0,14,15] (oD (dE p0)<|oK 0 [] h6 (c222 h5) k) (l157Lba _ _ _ _ h))
 obtain rfl:=sj h
 exact k157 (tF q157 1 [] (oK 0 [] h6 (c222 h5) k))
def e112v0(qq:Nat)(p0:List Int):Option (List Int):=
 some []
abbrev K112v0 (p0 r:List Int) (C:Cf):Prop:=C 112 [] [slv intC p0 .nl] (.sl (flat intC r) (List.length r) .no) [] 0
theorem q112v0:Qf 112 Tryz.f112:=⟨Tryz.func112,by kernel_rfl⟩
theorem k112v0{p0 r}(h:K112v0 p0 r Ci):K112v0 p0 r Ct:=⟨h,⟨⟨tv,dI _⟩,tv⟩,forall_nil,dI _,forall_nil⟩
theorem c112v0{qq p0 r}(h:e112v0 qq p0=some r):K112v0 p0 r Ct:=by
 unfold e112v0 at h
 obtain rfl:=sj h
 exact k112v0 (tF q112v0 1 [] (oD (dI ([]:List Int)) o0))
def e112v1(qq:Nat)(p0:List Int):Option (List Int):=
 gapp 8 ([]:List Int) p0>>=fun l1=>
 some l1
abbrev K112v1 (p0 r:List Int) (C:Cf):Prop:=C 112 [] [slv intC p0 .nn] (.sl (flat intC r) (List.length r) .no) [] 0
theorem q112v1:Qf 112 Tryz.f112:=⟨Tryz.func112,by kernel_rfl⟩
theorem k112v1{p0 r}(h:K112v1 p0 r Ci):K112v1 p0 r Ct:=⟨h,⟨⟨tv,dI _⟩,tv⟩,forall_nil,dI _,forall_nil⟩
theorem c112v1{qq p0 r}(h:e112v1 qq p0=some r):K112v1 p0 r Ct:=by
 unfold e112v1 at h
 obtain⟨l1,h2,h⟩:=obind h
 by_cases h3:List.length p0=0
 obtain rfl:=sj h
 exact k112v1 (tF q112v1 0 [] (oD (dI l1)<|oP 2 (apN41 h2 h3) o0))
 obtain rfl:=sj h
 exact k112v1 (tF q112v1 0 [] (oD (dI l1)<|oP 2 (apS41 h2 h3) o0))
def e112vr0(qq:Nat)(p0:List Int):Option (Unit):=
 some ()
abbrev K112vr0 (p0:List Int) (C:Cf):Prop:=C 112 [] [slv intC p0 .nl] (slv intC ([]:List Int) .full) [] 0
theorem q112vr0:Qf 112 Tryz.f112:=⟨Tryz.func112,by kernel_rfl⟩
theorem k112vr0{p0}(h:K112vr0 p0 Ci):K112vr0 p0 Ct:=⟨h,⟨⟨tv,dI _⟩,tv⟩,forall_nil,dI _,forall_nil⟩
theorem c112vr0{qq p0 r}(h:e112vr0 qq p0=some r):K112vr0 p0 Ct:=by
 unfold e112vr0 at h
 obtain rfl:=sj h
 exact k112vr0 (tG q112vr0 1 [] [] [] true (oD (dI ([]:List Int)) o0))
def e112vr1(qq:Nat)(p0:List Int):Option ((Unit) ⊕ (List Int)):=
 if decide (List.length p0=0)then
 some (Sum.inl ())
 else
 gapp 8 ([]:List Int) p0>>=fun l2=>
 some (Sum.inr l2)
abbrev K112vr1s0 (p0:List Int) (C:Cf):Prop:=C 112 [] [slv intC p0 .nn] (slv intC ([]:List Int) .full) [] 0
abbrev K112vr1s1 (p0 r:List Int) (C:Cf):Prop:=C 112 [] [slv intC p0 .nn] (.ms 0 0 (List.length r) (List.length r) 1) [.row (flat intC r)] 0
theorem q112vr1:Qf 112 Tryz.f112:=⟨Tryz.func112,by kernel_rfl⟩
theorem k112vr1s0{p0}(h:K112vr1s0 p0 Ci):K112vr1s0 p0 Ct:=⟨h,⟨⟨tv,dI _⟩,tv⟩,forall_nil,dI _,forall_nil⟩
theorem k112vr1s1{p0 r}(h:K112vr1s1 p0 r Ci):K112vr1s1 p0 r Ct:=⟨h,⟨⟨tv,dI _⟩,tv⟩,forall_nil,(lz rfl),(forall_cons (dI _) forall_nil)⟩
theorem c112vr1{qq p0 r}(h:e112vr1 qq p0=some r):(match (generalizing:=false) r with|Sum.inl x=>K112vr1s0 p0 Ct|Sum.inr x=>K112vr1s1 p0 x Ct):=by
 unfold e112vr1 at h
 rcases spl h with⟨h1,h⟩|⟨h1,h⟩
 obtain rfl:=sj h
 exact k112vr1s0 (tG q112vr1 0 [] [] [] true (oD (dI ([]:List Int))<|oQ 2 (apQ41 (of_decide_eq_true h1)) o0))
 obtain⟨l2,h3,h⟩:=obind h
 obtain rfl:=sj h
 exact k112vr1s1 (tF q112vr1 0 [0] (oD (dI l2)<|oM 2 (apW41 h3 (of_decide_eq_false h1)) o0))
def e112(_qq:Nat)(p0:List Int):Option (List Int):=gapp 8 [] p0
theorem c112{qq:Nat}{p0:List Int}{r:List Int}(h:e112 qq p0=some r):CT Tryz.prog 112 [] [.sl (flat intC p0) (List.length p0) .no] (.sl (flat intC r) (List.length r) .no) [] 0:=by
 have hr:r=p0:=by have:=(gapp_spec h).2;simpa using this
 have h1:e112v1 qq p0=some r:=by unfold e112v1;rw[show gapp 8 ([]:List Int) p0=some r from h];rfl
 have k1:=c112v1 h1
 refine⟨CTri.nilcase (fun hn=>?_) k1.tri,⟨⟨trivial,dI _⟩,trivial⟩,(fun _ h=>nomatch h),dI _,(fun _ h=>nomatch h)⟩
 have hp:p0=[]:=flat_nil codecI (by decide) hn
 subst hr
 subst hp
 exact(c112v0 (qq:=qq) rfl).tri
def e112vr(qq:Nat)(p0:List Int):Option (Unit ⊕ List Int):=if decide (List.length p0=0)=true then some (.inl ())else(gapp 8 [] p0)>>=fun r=>some (.inr r)
theorem c112vr{qq:Nat}{p0:List Int}{r:Unit ⊕ List Int}(h:e112vr qq p0=some r):(match (generalizing:=false) r with | .inl _=>CT Tryz.prog 112 [] [.sl (flat intC p0) (List.length p0) .no] (.sl (flat intC ([]:List Int)) (List.length ([]:List Int)) .full) [] 0 | .inr x=>CT Tryz.prog 112 [] [.sl (flat intC p0) (List.length p0) .no] (.ms 0 0 (List.length x) (List.length x) 1) [.row (flat intC x)] 0):=by
 unfold e112vr at h
 rcases spl h with⟨h1,h⟩|⟨h1,h⟩
 ·obtain rfl:=sj h
  have hp:p0=[]:=List.length_eq_zero_iff.1 (of_decide_eq_true h1)
  subst hp
  have k0:=c112vr0 (qq:=qq) (p0:=[]) (r:=()) rfl
  have k1:=c112vr1 (qq:=qq) (p0:=[]) (r:=.inl ()) rfl
  exact⟨CTri.nilcase (fun _=>k0.tri) k1.tri,⟨⟨trivial,dI _⟩,trivial⟩,(fun _ h=>nomatch h),dI _,(fun _ h=>nomatch h)⟩
 ·obtain⟨x,h2,h⟩:=obind h
  obtain rfl:=sj h
  have k1:=c112vr1 (qq:=qq) (p0:=p0) (r:=.inr x) (by unfold e112vr1;rw[if_neg (by rw[h1];decide),h2];rfl)
  refine⟨CTri.nilcase (fun hn=>?_) k1.tri,⟨⟨trivial,dI _⟩,trivial⟩,(fun _ h=>nomatch h),(show 0<1 by decide),forall_cons (dI _) forall_nil⟩
  have hp:p0=[]:=flat_nil codecI (by decide) hn
  subst hp
  cases h1
def e88Lbb:Nat->(List Ent)->(List Ent)->Int->Option (List Ent)
 |0,_,_,_=>none
 |qq+1,p0,v3,v8=>
 if decide (v8<(List.length p0:Int))then
 gidx p0 v8>>=fun x2=>
 e123 qq x2.type>>=fun r4=>
 e123 qq x2.body>>=fun r6=>
 e112 qq x2.cons>>=fun r8=>
 e112 qq x2.fields>>=fun r10=>
 gapp 192 v3 [(Ent.mk x2.kind x2.name r4 r6 x2.fam x2.place x2.pars x2.inds x2.level r8 r10)]>>=fun l12=>
 e88Lbb qq p0 l12 (w64 (v8+1))
 else
 some v3
def e88(qq:Nat)(p0:List Ent):Option (List Ent):=
 e88Lbb qq p0 [] 0
def g88LbbE0(j:Nat->Value)(p0 v3:List Ent)(v8:Int):=sp j 34 0 [(3,slv entL v3 (.st 0 15)),(6,slv entL p0 .no),(7,ai (List.length p0:Int)),(8,ai v8)]
def g88LbbS0(p0 v3:List Ent)(v8:Int):LSt:=⟨[],0,[0],1,[]⟩
abbrev K88 (p0 r:List Ent) (C:Cf):Prop:=C 88 [] [slv entL p0 .no] (.sl (flat entL r) (List.length r) .no) [] 0
theorem q88:Qf 88 Tryz.f88:=⟨Tryz.func88,by kernel_rfl⟩
theorem k88{p0 r}(h:K88 p0 r Ci):K88 p0 r Ct:=⟨h,⟨⟨tv,dE _⟩,tv⟩,forall_nil,dE _,forall_nil⟩
theorem l88Lbb:∀qq:Nat,(∀p0 v3 v8 r,e88Lbb qq p0 v3 v8=some r->(∀j,Dl Tryz.prog 0 (inn (inn (rgt (lft (rgt (rgt (bod Tryz.f88))))))) (g88LbbE0 j p0 v3 v8) (g88LbbS0 p0 v3 v8) (frameQ Tryz.prog 0 (FinQ Tryz.prog 0 Tryz.f88 (.sl (flat entL r) (List.length r) .no) [] 0) [.blk 0,.seq (rgt (rgt (rgt (bod Tryz.f88))))]))):=by
 intro qq
 induction qq with
 |zero=>
  exact fun _ _ _ _ h=>nn h
 |succ qq ih=>
  intro p0 v3 v8 r h
  rw[e88Lbb]at h
  rcases spl h with⟨h1,h⟩|⟨h1,h⟩
  obtain⟨x2,h3,h⟩:=obind h
  obtain⟨r4,h5,h⟩:=obind h
  obtain⟨r6,h7,h⟩:=obind h
  obtain⟨r8,h9,h⟩:=obind h
  obtain⟨r10,h11,h⟩:=obind h
  obtain⟨l12,h13,h⟩:=obind h
  exact fun j=>lH 1 [] [] [1] [3,6,7,8] (oD (dE p0)<|oD (dE l12)<|oP 4 (apS22 h13 (by simp))<|oC 1 [] (c112 h11)<|oC 3 [] (c112 h9)<|oC 1 [] (c123 h7)<|oC 3 [] (c123 h5)<|oA 0 (ix22 (o:=.no) h3)<|oB 0 h1 o0) (ih _ _ _ _ h)
  obtain rfl:=sj h
  exact fun j=>lF 0 [] (oD (dE v3)<|oB 0 h1 o0)
theorem c88{qq p0 r}(h:e88 qq p0=some r):K88 p0 r Ct:=by
 unfold e88 at h
 exact k88 (tH q88 1 [(none,3,15)] [] [0] [3,6,7,8] (oD (dE p0)<|oD (dE ([]:List Ent)) o0) (l88Lbb _ _ _ _ _ h))
end Go.Proofs.YtmfcobjnlabpoaaGreat
