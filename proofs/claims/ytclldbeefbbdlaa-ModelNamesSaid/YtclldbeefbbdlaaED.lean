/- ModelNames: the law, run. -/
import Derived.Test.YtclldbeefbbdlaaEV
set_option linter.unusedVariables false
set_option linter.unusedSimpArgs false
set_option linter.unusedSectionVars false
open Go Go.Lg
namespace Go.Proofs.Ytclldbeefbbdlaa
noncomputable def fzM (g : FuncId) : Bool := [45, 50, 48, 49].any (Nat.beq g)
theorem pf11 : PF Try.prog 11 [] (fun r => r = .bool true) := pf_of_ev (envN_ok fzM) mixedE (fuel := 60) pur_nil (.bool _) (by kernel_rfl)
end Go.Proofs.Ytclldbeefbbdlaa
