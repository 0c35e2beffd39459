/- Known answers. -/
import Derived.Test.YtlmighkbeacjnaaGreatDoorK1
import Derived.KernelRfl
set_option linter.unusedVariables false
open Go Go.Lg
set_option maxRecDepth 20000
namespace Go.Proofs.YtlmighkbeacjnaaGreatDoor
variable [GO]
noncomputable def ka9 : List AV := []
noncomputable def ky9 : AV := .bool true
theorem kp9 (hgo : GoOK) : PG Tryz.prog 28 ka9 ky9 := pg_of_ev (envG_ok hgo (K := [(24, ka7, ky7), (25, ka1, ky1), (11, ka8, ky8)]) (kg_cons (kp7 hgo) (kg_cons (kp1 hgo) (kg_cons (kp8 hgo) (kg_nil)))) kFz kFa) mixedE (fuel := 60) (by kernel_rfl)
end Go.Proofs.YtlmighkbeacjnaaGreatDoor

