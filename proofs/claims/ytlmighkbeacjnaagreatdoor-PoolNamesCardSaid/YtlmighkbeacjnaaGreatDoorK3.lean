/- Known answers. -/
import Derived.Test.YtlmighkbeacjnaaGreatDoorK2
import Derived.KernelRfl
set_option linter.unusedVariables false
open Go Go.Lg
set_option maxRecDepth 20000
namespace Go.Proofs.YtlmighkbeacjnaaGreatDoor
variable [GO]
noncomputable def ka14 : List AV := [.agg [.int .i64 (.ofNat 4), .int .i64 (.ofNat 1), .int .i64 (.ofNat 2), .int .i64 (.ofNat 1), .int .i64 (.ofNat 4), .int .i64 (.ofNat 1), .int .i64 (.ofNat 1), .int .i64 (.ofNat 2), .int .i64 (.ofNat 4)], .agg [.view [[.int .u8 (.ofNat 2), .int .i64 (.ofNat 1), .view [[.int .u8 (.ofNat 9)]], .view [[.int .i64 (.ofNat 0)]], .bool true, .bool true]], .int .i64 (.ofNat 0)], .empty, .int .i64 (.ofNat 0), .agg [.int .u8 (.ofNat 1), .int .i64 (.ofNat 2), .empty]]
noncomputable def ky14 : AV := .tuple [.agg [.view [[.int .u8 (.ofNat 1), .int .i64 (.ofNat 2), .empty, .view [[.int .i64 (.ofNat 1)]], .bool true, .bool false]], .int .i64 (.ofNat 0), .view [[.int .u8 (.ofNat 2), .int .i64 (.ofNat 1), .int .i64 (.ofNat 0), .view [[.int .u8 (.ofNat 9)]]], [.int .u8 (.ofNat 1), .int .i64 (.ofNat 2), .int .i64 (.ofNat 0), .empty]], .int .i64 (.ofNat 0), .empty, .int .i64 (.ofNat 2), .bool false], .int .i64 (.ofNat 0)]
theorem kp14 (hgo : GoOK) : PG Tryz.prog 11 ka14 ky14 := pg_of_ev (envG_ok hgo (K := []) (kg_nil) kFz kFa) mixedE (fuel := 60) (by kernel_rfl)
noncomputable def ka15 : List AV := [.agg [.int .i64 (.ofNat 4), .int .i64 (.ofNat 1), .int .i64 (.ofNat 2), .int .i64 (.ofNat 1), .int .i64 (.ofNat 4), .int .i64 (.ofNat 1), .int .i64 (.ofNat 1), .int .i64 (.ofNat 2), .int .i64 (.ofNat 4)], .agg [.view [[.int .u8 (.ofNat 1), .int .i64 (.ofNat 2), .empty, .view [[.int .i64 (.ofNat 1)]], .bool true, .bool false]], .int .i64 (.ofNat 0)], .view [[.int .u8 (.ofNat 2), .int .i64 (.ofNat 1), .int .i64 (.ofNat 0), .view [[.int .u8 (.ofNat 9)]]], [.int .u8 (.ofNat 1), .int .i64 (.ofNat 2), .int .i64 (.ofNat 0), .empty]], .int .i64 (.ofNat 0), .agg [.int .u8 (.ofNat 1), .int .i64 (.ofNat 1), .empty]]
noncomputable def ky15 : AV := .tuple [.agg [.view [[.int .u8 (.ofNat 1), .int .i64 (.ofNat 2), .empty, .view [[.int .i64 (.ofNat 1)]], .bool true, .bool false]], .int .i64 (.ofNat 0), .view [[.int .u8 (.ofNat 2), .int .i64 (.ofNat 1), .int .i64 (.ofNat 0), .view [[.int .u8 (.ofNat 9)]]], [.int .u8 (.ofNat 1), .int .i64 (.ofNat 2), .int .i64 (.ofNat 0), .empty]], .int .i64 (.ofNat 250), .empty, .int .i64 (.ofNat 0), .bool false], .int .i64 (.ofNat 0)]
theorem kp15 (hgo : GoOK) : PG Tryz.prog 11 ka15 ky15 := pg_of_ev (envG_ok hgo (K := []) (kg_nil) kFz kFa) mixedE (fuel := 60) (by kernel_rfl)
end Go.Proofs.YtlmighkbeacjnaaGreatDoor
