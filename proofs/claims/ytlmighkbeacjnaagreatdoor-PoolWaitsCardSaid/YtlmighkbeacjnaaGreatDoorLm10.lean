/- The evaluator: that the machine does so. Code, functions, rounds. -/
import Derived.Test.YtlmighkbeacjnaaGreatDoorLm9

set_option linter.unusedSimpArgs false
set_option linter.unusedSectionVars false
namespace Go.Lg
open Go
variable [GO]
set_option linter.unusedVariables false
def PB (rd : Bool) : Fb → Prop := match rd with
  | true => Round
  | false => Plain
section
variable {P : Program} {ev : Env} (hv : EnvOK P ev) {ask : Ask} (ha : AskOK P ask) {evD : Nat → List Oper → S → Option (List O)}
include ha
include hv
end
section
variable {P : Program} {ev : Env} (hv : EnvOK P ev) {ask : Ask} (ha : AskOK P ask) {evD : Nat → List Oper → S → Option (List O)}
  (hD : ∀ rd N m id (ops : Array Oper) s L, evD N ops.toList s = some L → W P (PB rd) N m (.region id ops true) (Out L) s.st)
include hv ha hD
section
variable {f : FuncId} {fn : Func} (hf : P.funcs[f]? = some fn) {L : List CO}
include hf
end
end
end Go.Lg


