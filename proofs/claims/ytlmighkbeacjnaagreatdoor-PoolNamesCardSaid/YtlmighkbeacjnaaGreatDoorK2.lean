/- Known answers. -/
import Derived.Test.YtlmighkbeacjnaaGreatDoorK1
import Derived.KernelRfl
set_option linter.unusedVariables false
open Go Go.Lg
set_option maxRecDepth 20000
namespace Go.Proofs.YtlmighkbeacjnaaGreatDoor
variable [GO]
noncomputable def ka9 : List AV := []
noncomputable def ky9 : AV := .bool true
theorem kp9 (hgo : GoOK) : PG Tryz.prog 28 ka9 ky9 := pg_of_ev (envG_ok hgo (K := [(24, ka7, ky7), (25, ka1, ky1), (11, ka8, ky8)]) (kg_cons (kp7 hgo) (kg_cons (kp1 hgo) (kg_cons (kp8 hgo) (kg_nil)))) kFz kFa) mixedE (fuel := 60) (by kernel_rfl)
noncomputable def ka10 : List AV := [.agg [.int .i64 (.ofNat 4), .int .i64 (.ofNat 1), .int .i64 (.ofNat 2), .int .i64 (.ofNat 1), .int .i64 (.ofNat 4), .int .i64 (.ofNat 1), .int .i64 (.ofNat 1), .int .i64 (.ofNat 2), .int .i64 (.ofNat 4)], .agg [.view [[.int .u8 (.ofNat 2), .int .i64 (.ofNat 1), .view [[.int .u8 (.ofNat 7)]], .view [[.int .i64 (.ofNat 1)]], .bool true, .bool false]], .int .i64 (.ofNat 0)], .empty, .int .i64 (.ofNat 0), .agg [.int .u8 (.ofNat 3), .int .i64 (.ofNat 1), .view [[.int .u8 (.ofNat 9)]]]]
noncomputable def ky10 : AV := .tuple [.agg [.view [[.int .u8 (.ofNat 2), .int .i64 (.ofNat 1), .view [[.int .u8 (.ofNat 9)]], .view [[.int .i64 (.ofNat 1)]], .bool true, .bool true]], .int .i64 (.ofNat 0), .empty, .int .i64 (.ofNat 0), .empty, .int .i64 (.ofNat 0), .bool false], .int .i64 (.ofNat 0)]
theorem kp10 (hgo : GoOK) : PG Tryz.prog 11 ka10 ky10 := pg_of_ev (envG_ok hgo (K := []) (kg_nil) kFz kFa) mixedE (fuel := 60) (by kernel_rfl)
noncomputable def ka11 : List AV := [.agg [.int .i64 (.ofNat 4), .int .i64 (.ofNat 1), .int .i64 (.ofNat 2), .int .i64 (.ofNat 1), .int .i64 (.ofNat 4), .int .i64 (.ofNat 1), .int .i64 (.ofNat 1), .int .i64 (.ofNat 2), .int .i64 (.ofNat 4)], .agg [.view [[.int .u8 (.ofNat 2), .int .i64 (.ofNat 1), .view [[.int .u8 (.ofNat 9)]], .view [[.int .i64 (.ofNat 1)]], .bool true, .bool true]], .int .i64 (.ofNat 0)], .empty, .int .i64 (.ofNat 0), .agg [.int .u8 (.ofNat 4), .int .i64 (.ofNat 1), .empty]]
noncomputable def ky11 : AV := .tuple [.agg [.view [[.int .u8 (.ofNat 2), .int .i64 (.ofNat 1), .view [[.int .u8 (.ofNat 9)]], .view [[.int .i64 (.ofNat 0)]], .bool true, .bool true]], .int .i64 (.ofNat 0), .empty, .int .i64 (.ofNat 0), .empty, .int .i64 (.ofNat 0), .bool false], .int .i64 (.ofNat 0)]
theorem kp11 (hgo : GoOK) : PG Tryz.prog 11 ka11 ky11 := pg_of_ev (envG_ok hgo (K := []) (kg_nil) kFz kFa) mixedE (fuel := 60) (by kernel_rfl)
noncomputable def ka12 : List AV := [.agg [.int .i64 (.ofNat 4), .int .i64 (.ofNat 1), .int .i64 (.ofNat 2), .int .i64 (.ofNat 1), .int .i64 (.ofNat 4), .int .i64 (.ofNat 1), .int .i64 (.ofNat 1), .int .i64 (.ofNat 2), .int .i64 (.ofNat 4)], .agg [.view [[.int .u8 (.ofNat 2), .int .i64 (.ofNat 1), .view [[.int .u8 (.ofNat 9)]], .view [[.int .i64 (.ofNat 0)]], .bool true, .bool true]], .int .i64 (.ofNat 0)], .empty, .int .i64 (.ofNat 0), .agg [.int .u8 (.ofNat 6), .int .i64 (.ofNat 0), .empty]]
noncomputable def ky12 : AV := .tuple [.agg [.view [[.int .u8 (.ofNat 2), .int .i64 (.ofNat 1), .view [[.int .u8 (.ofNat 9)]], .view [[.int .i64 (.ofNat 0)]], .bool true, .bool true]], .int .i64 (.ofNat 0), .empty, .int .i64 (.ofNat 230), .empty, .int .i64 (.ofNat 0), .bool false], .int .i64 (.ofNat 0)]
theorem kp12 (hgo : GoOK) : PG Tryz.prog 11 ka12 ky12 := pg_of_ev (envG_ok hgo (K := []) (kg_nil) kFz kFa) mixedE (fuel := 60) (by kernel_rfl)
noncomputable def ka13 : List AV := [.int .i64 (.ofNat 2)]
noncomputable def ky13 : AV := .agg [.int .u8 (.ofNat 1), .int .i64 (.ofNat 2), .empty]
theorem kp13 (hgo : GoOK) : PG Tryz.prog 26 ka13 ky13 := pg_of_ev (envG_ok hgo (K := []) (kg_nil) kFz kFa) mixedE (fuel := 60) (by kernel_rfl)
end Go.Proofs.YtlmighkbeacjnaaGreatDoor
