/- Known answers. -/
import Derived.Test.YtlmighkbeacjnaaGreatDoorEX
import Derived.KernelRfl
set_option linter.unusedVariables false
open Go Go.Lg
set_option maxRecDepth 20000
namespace Go.Proofs.YtlmighkbeacjnaaGreatDoor
variable [GO]
noncomputable def kFz (g : FuncId) : Bool := [11, 24, 25, 26, 27, 28, 52, 31, 32, 55, 15, 17].any (Nat.beq g)
noncomputable def kFa (g : FuncId) : Bool := [11, 27, 32, 31, 55, 52].any (Nat.beq g)
noncomputable def ka1 : List AV := []
noncomputable def ky1 : AV := .agg [.int .i64 (.ofNat 4), .int .i64 (.ofNat 1), .int .i64 (.ofNat 2), .int .i64 (.ofNat 1), .int .i64 (.ofNat 4), .int .i64 (.ofNat 1), .int .i64 (.ofNat 1), .int .i64 (.ofNat 2), .int .i64 (.ofNat 4)]
theorem kp1 (hgo : GoOK) : PG Tryz.prog 25 ka1 ky1 := pg_of_ev (envG_ok hgo (K := []) (kg_nil) kFz kFa) mixedE (fuel := 60) (by kernel_rfl)
noncomputable def ka2 : List AV := [.agg [.int .i64 (.ofNat 4), .int .i64 (.ofNat 1), .int .i64 (.ofNat 2), .int .i64 (.ofNat 1), .int .i64 (.ofNat 4), .int .i64 (.ofNat 1), .int .i64 (.ofNat 1), .int .i64 (.ofNat 2), .int .i64 (.ofNat 4)]]
noncomputable def ky2 : AV := .tuple [.agg [.view [[.int .u8 (.ofNat 0), .int .i64 (.ofNat 0), .empty, .view [[.int .i64 (.ofNat 0)]], .bool false, .bool false]], .int .i64 (.ofNat 0)], .int .i64 (.ofNat 0)]
theorem kp2 (hgo : GoOK) : PG Tryz.prog 52 ka2 ky2 := pg_of_ev (envG_ok hgo (K := []) (kg_nil) kFz kFa) mixedE (fuel := 60) (by kernel_rfl)
noncomputable def ka3 : List AV := [.int .i64 (.ofNat 1)]
noncomputable def ky3 : AV := .agg [.int .u8 (.ofNat 1), .int .i64 (.ofNat 1), .empty]
theorem kp3 (hgo : GoOK) : PG Tryz.prog 26 ka3 ky3 := pg_of_ev (envG_ok hgo (K := []) (kg_nil) kFz kFa) mixedE (fuel := 60) (by kernel_rfl)
noncomputable def ka4 : List AV := [.agg [.int .i64 (.ofNat 4), .int .i64 (.ofNat 1), .int .i64 (.ofNat 2), .int .i64 (.ofNat 1), .int .i64 (.ofNat 4), .int .i64 (.ofNat 1), .int .i64 (.ofNat 1), .int .i64 (.ofNat 2), .int .i64 (.ofNat 4)], .agg [.view [[.int .u8 (.ofNat 0), .int .i64 (.ofNat 0), .empty, .view [[.int .i64 (.ofNat 0)]], .bool false, .bool false]], .int .i64 (.ofNat 0)], .empty, .int .i64 (.ofNat 0), .agg [.int .u8 (.ofNat 1), .int .i64 (.ofNat 1), .empty]]
noncomputable def ky4 : AV := .tuple [.agg [.view [[.int .u8 (.ofNat 1), .int .i64 (.ofNat 1), .empty, .view [[.int .i64 (.ofNat 1)]], .bool true, .bool false]], .int .i64 (.ofNat 0), .view [[.int .u8 (.ofNat 1), .int .i64 (.ofNat 1), .int .i64 (.ofNat 0), .empty]], .int .i64 (.ofNat 0), .empty, .int .i64 (.ofNat 1), .bool false], .int .i64 (.ofNat 0)]
theorem kp4 (hgo : GoOK) : PG Tryz.prog 11 ka4 ky4 := pg_of_ev (envG_ok hgo (K := []) (kg_nil) kFz kFa) mixedE (fuel := 60) (by kernel_rfl)
noncomputable def ka5 : List AV := [.agg [.int .i64 (.ofNat 4), .int .i64 (.ofNat 1), .int .i64 (.ofNat 2), .int .i64 (.ofNat 1), .int .i64 (.ofNat 4), .int .i64 (.ofNat 1), .int .i64 (.ofNat 1), .int .i64 (.ofNat 2), .int .i64 (.ofNat 4)], .view [[.int .u8 (.ofNat 1), .int .i64 (.ofNat 1), .int .i64 (.ofNat 0), .empty]]]
noncomputable def ky5 : AV := .tuple [.view [], .agg [.int .u8 (.ofNat 1), .int .i64 (.ofNat 1), .int .i64 (.ofNat 0), .empty], .int .i64 (.ofNat 0)]
theorem kp5 (hgo : GoOK) : PG Tryz.prog 31 ka5 ky5 := pg_of_ev (envG_ok hgo (K := []) (kg_nil) kFz kFa) mixedE (fuel := 60) (by kernel_rfl)
noncomputable def ka6 : List AV := [.agg [.int .i64 (.ofNat 4), .int .i64 (.ofNat 1), .int .i64 (.ofNat 2), .int .i64 (.ofNat 1), .int .i64 (.ofNat 4), .int .i64 (.ofNat 1), .int .i64 (.ofNat 1), .int .i64 (.ofNat 2), .int .i64 (.ofNat 4)], .agg [.view [[.int .u8 (.ofNat 1), .int .i64 (.ofNat 1), .empty, .view [[.int .i64 (.ofNat 1)]], .bool true, .bool false]], .int .i64 (.ofNat 0)], .agg [.int .u8 (.ofNat 1), .int .i64 (.ofNat 1), .int .i64 (.ofNat 0), .empty, .view [[.int .u8 (.ofNat 7)]]]]
noncomputable def ky6 : AV := .tuple [.agg [.view [[.int .u8 (.ofNat 2), .int .i64 (.ofNat 1), .view [[.int .u8 (.ofNat 7)]], .view [[.int .i64 (.ofNat 1)]], .bool true, .bool false]], .int .i64 (.ofNat 0)], .int .i64 (.ofNat 0)]
theorem kp6 (hgo : GoOK) : PG Tryz.prog 32 ka6 ky6 := pg_of_ev (envG_ok hgo (K := []) (kg_nil) kFz kFa) mixedE (fuel := 60) (by kernel_rfl)
noncomputable def ka7 : List AV := []
noncomputable def ky7 : AV := .tuple [.agg [.view [[.int .u8 (.ofNat 2), .int .i64 (.ofNat 1), .view [[.int .u8 (.ofNat 7)]], .view [[.int .i64 (.ofNat 1)]], .bool true, .bool false]], .int .i64 (.ofNat 0)], .bool true]
theorem kp7 (hgo : GoOK) : PG Tryz.prog 24 ka7 ky7 := pg_of_ev (envG_ok hgo (K := [(25, ka1, ky1), (52, ka2, ky2), (26, ka3, ky3), (11, ka4, ky4), (31, ka5, ky5), (32, ka6, ky6)]) (kg_cons (kp1 hgo) (kg_cons (kp2 hgo) (kg_cons (kp3 hgo) (kg_cons (kp4 hgo) (kg_cons (kp5 hgo) (kg_cons (kp6 hgo) (kg_nil))))))) kFz kFa) mixedE (fuel := 60) (by kernel_rfl)
noncomputable def ka8 : List AV := [.agg [.int .i64 (.ofNat 4), .int .i64 (.ofNat 1), .int .i64 (.ofNat 2), .int .i64 (.ofNat 1), .int .i64 (.ofNat 4), .int .i64 (.ofNat 1), .int .i64 (.ofNat 1), .int .i64 (.ofNat 2), .int .i64 (.ofNat 4)], .agg [.view [[.int .u8 (.ofNat 2), .int .i64 (.ofNat 1), .view [[.int .u8 (.ofNat 7)]], .view [[.int .i64 (.ofNat 1)]], .bool true, .bool false]], .int .i64 (.ofNat 0)], .empty, .int .i64 (.ofNat 0), .agg [.int .u8 (.ofNat 2), .int .i64 (.ofNat 1), .empty]]
noncomputable def ky8 : AV := .tuple [.agg [.view [[.int .u8 (.ofNat 2), .int .i64 (.ofNat 1), .view [[.int .u8 (.ofNat 7)]], .view [[.int .i64 (.ofNat 1)]], .bool true, .bool false]], .int .i64 (.ofNat 0), .empty, .int .i64 (.ofNat 0), .view [[.int .u8 (.ofNat 7)]], .int .i64 (.ofNat 0), .bool false], .int .i64 (.ofNat 0)]
theorem kp8 (hgo : GoOK) : PG Tryz.prog 11 ka8 ky8 := pg_of_ev (envG_ok hgo (K := []) (kg_nil) kFz kFa) mixedE (fuel := 60) (by kernel_rfl)
end Go.Proofs.YtlmighkbeacjnaaGreatDoor

