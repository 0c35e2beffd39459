/- The evaluator: regions that draw their order. -/
import Derived.Test.YtlmighkbeacjnaaGreatDoorLm10

set_option linter.unusedSimpArgs false
set_option linter.unusedSectionVars false
namespace Go.Lg
open Go
variable [GO]
set_option linter.unusedVariables false
/-! values compared -/
/-! the walk through a drawn region, for one order of its changes -/
section
variable (ev : Env) (ask : Ask)
end
end Go.Lg


