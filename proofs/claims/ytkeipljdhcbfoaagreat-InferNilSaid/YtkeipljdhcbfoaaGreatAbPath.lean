/- PLACES IN A FUNCTION's BODY, named by the way to them: so that the program is never written out. -/
import Derived.Test.YtkeipljdhcbfoaaGreatAbSym2
namespace Go.Ab
open Go Go.RowKit

def bod (fn : Func) : Code := fn.body.getD .skip
def lft : Code → Code
  | .seq x _ => x
  | .cond _ x _ => x
  | c => c
def rgt : Code → Code
  | .seq _ y => y
  | .cond _ _ y => y
  | c => c
def inn : Code → Code
  | .loop c => c
  | .block _ c => c
  | .scope c => c
  | c => c
def cnd : Code → Operand
  | .cond c _ _ => c
  | _ => .tmp 0
def bid : Code → Nat
  | .block i _ => i
  | _ => 0
/-- 1 seq, 2 cond, 3 block, 4 loop, 5 scope -/
def knd : Code → Nat
  | .seq .. => 1
  | .cond .. => 2
  | .block .. => 3
  | .loop .. => 4
  | .scope .. => 5
  | _ => 0

variable {P : Program} {c : Code} {env : List AV} {s : LSt} {Q : AX → List AV → LSt → Prop}

theorem Ev.seqP (hk : knd c = 1) (h : Ev P (lft c) env s (seqQ (fun e s => Ev P (rgt c) e s Q) Q)) : Ev P c env s Q := by
  cases c <;> first | exact Ev.seq h | cases hk
theorem Ev.condP (hk : knd c = 2) (b : Bool) (hc : aev env (cnd c) = .val (.bool b)) (h1 : b = true → Ev P (lft c) env s Q) (h2 : b = false → Ev P (rgt c) env s Q) : Ev P c env s Q := by
  cases c <;> first | exact Ev.test b hc h1 h2 | cases hk
theorem Ev.blockP (hk : knd c = 3) (h : Ev P (inn c) env s (blockQ (bid c) Q)) : Ev P c env s Q := by
  cases c <;> first | exact Ev.block h | cases hk
theorem Ev.loopP (hk : knd c = 4) (I : Nat → List AV → LSt → Prop) (step : ∀ n env s, I n env s → Ev P (inn c) env s (seqQ (fun e s => ∃ m, m < n ∧ I m e s) Q)) {n : Nat} (hI : I n env s) : Ev P c env s Q := by
  cases c <;> first | exact Ev.loop I step n env s hI | cases hk
theorem Ev.scopeP (hk : knd c = 5) (h : Ev P (inn c) env s Q) : Ev P c env s Q := by
  cases c <;> first | exact Ev.scope h | cases hk

/-- a piece of code without loops, run in one go -/
theorem Ev.go (hm : P.follows .mixedOrders = true) (n : Nat) {vs vs' : List LA} {x : AX} {env' : List AV} {s' : LSt} {ob : List Obl} (h : vcode P n c env s vs = some (x, env', s', vs', ob)) (hob : OblsOk P ob) (hQ : Q x env' s') : Ev P c env s Q :=
  vcode_ok hm n c env s vs x env' s' vs' ob h hob hQ

theorem PTri.evP {f : FuncId} {fn : Func} {args : List AV} {v : AV} (hf : P.funcs[f]? = some fn) (hb : fn.body.isNone = false)
    (h : Ev P (bod fn) (args ++ List.replicate (fn.ntmps - args.length) (.val undef)) LSt.zero fun x env s => (x = .normal ∨ x = .ret) ∧
      ∃ res, ares P (look s.H) env fn.results.toList = some res ∧ ∀ G w u, V G w res u → V G w v u) : PTri P f args v := by
  cases hb' : fn.body with
  | none => rw [hb'] at hb; cases hb
  | some c => exact PTri.ev hf hb' (by simpa [bod, hb'] using h)

end Go.Ab
