/- WHAT A FUNCTION LEADS TO, told once; it names no variable. -/
import Derived.Test.YtcpbenbhnbjcoaaGreatAbB5
set_option linter.unusedVariables false
set_option linter.unusedSimpArgs false
set_option linter.unusedSectionVars false
namespace Go.Ab
open Go
def nmB(P:Program)(g:FuncId):Bool:=
 (((P.funcs[g]?).bind (·.body)).elim [] Code.globalsNamed).isEmpty&&((P.funcs[g]?).bind fun fn=>if fn.body.isNone then entryReads.lookup fn.name else none).isNone
theorem named_nil{P:Program}{f:FuncId}{L:List FuncId}(hL:P.closure f=L)(h:L.all (nmB P)=true):P.varsNamed f=[]:=by
 unfold Program.varsNamed
 rw[hL]
 have h1:∀g∈L,nmB P g=true:=List.all_eq_true.1 h
 have e1:(L.flatMap fun g=>((P.funcs[g]?).bind (·.body)).elim [] Code.globalsNamed)=[]:=by
  rw[List.flatMap_eq_nil_iff]
  intro g hg
  have:=h1 g hg
  unfold nmB at this
  rw[Bool.and_eq_true]at this
  exact List.isEmpty_iff.1 this.1
 have e2:(L.filterMap fun g=>(P.funcs[g]?).bind fun fn=>if fn.body.isNone then entryReads.lookup fn.name else none)=[]:=by
  rw[List.filterMap_eq_nil_iff]
  intro g hg
  have:=h1 g hg
  unfold nmB at this
  rw[Bool.and_eq_true]at this
  exact Option.isNone_iff_eq_none.1 this.2
 rw[e1,e2]
 rfl
theorem all_app{α:Type}{p:α->Bool}{a b:List α}(h:a.all p=true)(k:b.all p=true):(a++b).all p=true:=by
 rw[List.all_append,h,k];rfl
end Go.Ab
