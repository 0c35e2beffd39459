/- The evaluator: that the machine does so. Regions and code. -/
import Derived.Test.YtlmighkbeacjnaaGreatDoorLm8

set_option linter.unusedSimpArgs false
set_option linter.unusedSectionVars false
namespace Go.Lg
open Go
variable [GO]
set_option linter.unusedVariables false
def Out (L : List O) : AEx → St → Prop := fun e σ => ∃ o, o ∈ L ∧ e = o.e ∧ σ = o.s.st
def COut (L : List CO) : AR → Heap → Nat → Prop := fun r h n => ∃ o, o ∈ L ∧ r = o.r ∧ h = hF o.h ∧ n = o.n
structure EnvOK (P : Program) (ev : Env) : Prop where
  hT : TOK P ev.T
  heq : EqOK P ev.eq
  hF : ∀ g fn, ev.F g = some fn → P.funcs[g]? = some fn ∧ (fn.name == "runtime.NumGoroutine") = false
  hsm : ∀ g args y, ev.sm g args = some y → PF P g args (fun r => r = y)
  hex : ∀ g args h n L, ev.ex g args h n = some L → Callable P g ∧ AC P g args (Go.Lg.hF h) n (COut L)
def AskOK (P : Program) (ask : Ask) : Prop := ∀ rq h n L, ask rq h n = some L → match rq with
  | .fn g args => Callable P g ∧ AC P g args (hF h) n (COut L)
  | .yd id args => YX P id args (hF h) n (COut L)
section
variable {P : Program} {ev : Env} (hv : EnvOK P ev) {ask : Ask} (ha : AskOK P ask) {B : Fb → Prop} {N m : Nat}
include hv ha
end
end Go.Lg


