/- The evaluator: regions that draw their order; that the machine does so. -/
import Derived.Test.YtlmighkbeacjnaaGreatDoorLm11

set_option linter.unusedSimpArgs false
set_option linter.unusedSectionVars false
namespace Go.Lg
open Go
variable [GO]
set_option linter.unusedVariables false
section
variable {P : Program} {ev : Env} (hv : EnvOK P ev) {ask : Ask} (ha : AskOK P ask) {B : Fb → Prop} {N m : Nat}
include hv ha
end
end Go.Lg


