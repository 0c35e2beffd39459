/- The top: a function that only computes, called from any world. -/
import Derived.Test.YtlmighkbeacjnaaLgP
import Derived.Below
set_option linter.unusedVariables false
set_option linter.unusedSimpArgs false
set_option linter.unusedSectionVars false
namespace Go.Lg
open Go Go.RowKit
def Ctx.top (w : World) : Ctx := ⟨fun _ => 0, fun _ => 0, fun _ => 0, 0, fun b => b < w.heap.size, w⟩
theorem calls_of_pf {P : Program} {f : FuncId} {args : List AV} {b : Bool} (h : PF P f args (fun r => r = .bool b)) (w : World) (vs : Array Value) (hv : VRs (Ctx.top w) args vs.toList) :
    Calls P f vs w (fun e w' => e = .returned (.bool b) ∧ Below w.heap.size w w') := by
  have hr : Rel (Ctx.top w) noHeap := ⟨fun _ h => absurd rfl h, fun _ h => absurd rfl h, fun _ _ h => by simp [noHeap] at h, fun _ _ h => absurd rfl h, fun _ h => h⟩
  refine (h.run 0 (Ctx.top w) vs rfl hr hv).mono ?_
  rintro e w' ⟨K', H', r, rfl, hr', hst, hrr, x, rfl, _, rfl⟩
  cases hrr with
  | ret hv => exact ⟨by rw [hv.bool_inv], ⟨hst.os, hst.tape, hst.output, hst.size, fun k hk => hst.same k hk (fun ⟨_, h, _⟩ => h rfl)⟩⟩
end Go.Lg
