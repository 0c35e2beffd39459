/- conf's and the reference's small functions over the levels. -/
import Derived.Test.YtlmighkbeacjnaaC7
open Go Go.Lg
set_option linter.unusedSimpArgs false
set_option maxHeartbeats 2000000
namespace Go.Proofs.Ytlmighkbeacjnaa
def Cf.good (c : Cf) : Bool := c.ok && decide (c.levs.length ≤ 4)
def Cf.res (c : Cf) : List Lev := if c.good = true then c.levs else []
def Cf.err (c : Cf) : Int := if c.good = true then 0 else 8
theorem pf83 (c : Cf) : PF Try.prog 83 [.agg c.cells] (fun r => r = .tuple [.view (levRows c.res), .int .i64 c.err]) := by
  have hbad : c.good = false → ∀ h : PF Try.prog 83 [.agg c.cells] (fun r => r = .tuple [.empty, .int .i64 8]), PF Try.prog 83 [.agg c.cells] (fun r => r = .tuple [.view (levRows c.res), .int .i64 c.err]) := fun hg h => by
    have e1 : c.res = [] := by simp [Cf.res, hg]
    have e2 : c.err = 8 := by simp [Cf.err, hg]
    rw [e1, e2]
    exact h.weak (.tuple (.cons .empty (.cons (.refl _) .nil))) (.tuple (fun x hx => by
      simp only [List.mem_cons, List.not_mem_nil, or_false] at hx
      rcases hx with rfl | rfl
      · exact .view (levRows_pur _)
      · exact .int _ _))
  cases hc : c.ok with
  | false => exact hbad (by simp [Cf.good, hc]) (pf83_bad c hc)
  | true =>
    have h := pf83_ok c hc
    by_cases hl : c.levs.length ≤ 4
    · rw [if_pos hl] at h
      have hg : c.good = true := by simp [Cf.good, hc, hl]
      have e1 : c.res = c.levs := by simp [Cf.res, hg]
      have e2 : c.err = 0 := by simp [Cf.err, hg]
      rw [e1, e2]; exact h
    · rw [if_neg hl] at h
      exact hbad (by simp [Cf.good, hl]) h
theorem pf46 (c : Cf) : PF Try.prog 46 [.agg c.cells] (fun r => r = .int .i64 c.err) := by
  refine pf_of_w0 Try.func46 (c := _) rfl rfl (Nat.le_of_ble_eq_true rfl) (by simp only [Cf.cells, pur_bool, pur_int, pur_str, pur_empty, pur_nilptr, pur_nilFunc, pur_nilIface, pur_any, pur_agg, pur_tuple, pur_vptr, pur_view, pur_iface, pur_func, tup, List.mem_cons, forall_eq_or_imp, List.not_mem_nil, false_implies, implies_true, and_self, forall_const, forall_eq]) ?_
  rw [show Try.f46.ntmps = 11 from rfl]
  have ehc : [AV.int .i64 c.p, .int .i64 c.z, .int .i64 c.f, .int .i64 c.s, .int .i64 c.st, .int .i64 c.fr, .int .i64 c.cl, .int .i64 c.q, .int .i64 c.t] = Cf.cells c := rfl
  have tE := And.intro (@upd_upd AV) <| And.intro (@upd_upd (Option Blk)) <| And.intro Cf.cells.eq_1 <| And.intro ty3 <| And.intro ty4 <| And.intro ty29 <| And.intro ty110 <| And.intro ty23 <| Try.results46; repeat' first | ((with_reducible first | apply w_seq | apply w_region | apply wl_nil | apply wr_nil | apply wr_nilA | apply wr_nilE | apply go_normal | apply go_ret | apply go_exit | apply blk_normal | apply blk_ret | apply blk_here | apply w_block | apply w_skip | apply w_exit | apply w_label)) | ((with_reducible first | apply wz (tok Try.prog) | apply wr_z (tok Try.prog)); exact zZ; decide) | ((with_reducible first | apply wcall' | apply wr_call); exact zV; exact zVs; exact zAs; (focus (with_unfolding_all first | exact pf83 c)); decide) | ((with_reducible apply w_ret); (repeat (with_reducible first | apply go_ret | apply blk_ret)); (with_reducible apply done_ret (tok Try.prog)); exact zT; exact zD; exact zX) | fail
  all_goals try clear tE
  rfl
theorem pf70 (c : Cf) : PF Try.prog 70 [.agg c.cells] (fun r => r = .bool c.good) := by
  refine pf_of_w0 Try.func70 (c := _) rfl rfl (Nat.le_of_ble_eq_true rfl) (by simp only [Cf.cells, pur_bool, pur_int, pur_str, pur_empty, pur_nilptr, pur_nilFunc, pur_nilIface, pur_any, pur_agg, pur_tuple, pur_vptr, pur_view, pur_iface, pur_func, tup, List.mem_cons, forall_eq_or_imp, List.not_mem_nil, false_implies, implies_true, and_self, forall_const, forall_eq]) ?_
  rw [show Try.f70.ntmps = 11 from rfl]
  cases hc : c.ok with
  | false =>
    have tE := And.intro (@upd_upd AV) <| And.intro (@upd_upd (Option Blk)) <| And.intro Cf.cells.eq_1 <| And.intro ty3 <| And.intro ty4 <| And.intro ty29 <| And.intro ty110 <| And.intro ty23 <| And.intro Try.results70 <| hc; repeat' first | ((with_reducible first | apply w_seq | apply w_region | apply wl_nil | apply wr_nil | apply wr_nilA | apply wr_nilE | apply go_normal | apply go_ret | apply go_exit | apply blk_normal | apply blk_ret | apply blk_here | apply w_block | apply w_skip | apply w_exit | apply w_label)) | ((with_reducible first | apply wz (tok Try.prog) | apply wr_z (tok Try.prog)); exact zZ; decide) | ((with_reducible first | apply wskip' | apply wr_skip); exact zU; exact zL; exact zU; decide) | ((with_reducible first | apply wcall' | apply wr_call); exact zV; exact zVs; exact zAs; (focus (with_unfolding_all first | exact pf94 c)); decide) | ((with_reducible apply w_ret); (repeat (with_reducible first | apply go_ret | apply blk_ret)); (with_reducible apply done_ret (tok Try.prog)); exact zT; exact zD; exact zX) | fail
    all_goals try clear tE
    simp [tup, Cf.good, hc]
  | true =>
    have tE := And.intro (@upd_upd AV) <| And.intro (@upd_upd (Option Blk)) <| And.intro Cf.cells.eq_1 <| And.intro ty3 <| And.intro ty4 <| And.intro ty29 <| And.intro ty110 <| And.intro ty23 <| And.intro Try.results70 <| And.intro hc <| levRows_len; repeat' first | ((with_reducible first | apply w_seq | apply w_region | apply wl_nil | apply wr_nil | apply wr_nilA | apply wr_nilE | apply go_normal | apply go_ret | apply go_exit | apply blk_normal | apply blk_ret | apply blk_here | apply w_block | apply w_skip | apply w_exit | apply w_label)) | ((with_reducible first | apply wz (tok Try.prog) | apply wr_z (tok Try.prog)); exact zZ; decide) | ((with_reducible first | apply wzg (tok Try.prog) | apply wr_zg (tok Try.prog)); exact zU; exact zL; exact zU; exact zZ; decide) | ((with_reducible first | apply wcall' | apply wr_call); exact zV; exact zVs; exact zAs; (focus (with_unfolding_all first | exact pf94 c | exact pf95 c hc)); decide) | ((with_reducible first | apply wcallg' | apply wr_callg); exact zU; exact zL; exact zU; exact zV; exact zVs; exact zAs; (focus (with_unfolding_all first | exact pf94 c | exact pf95 c hc)); decide) | ((with_reducible apply w_ret); (repeat (with_reducible first | apply go_ret | apply blk_ret)); (with_reducible apply done_ret (tok Try.prog)); exact zT; exact zD; exact zX) | fail
    all_goals try clear tE
    simp only [tup, Cf.good, hc, Bool.true_and]
    congr 1
    exact decide_eq_decide.2 (by omega)
end Go.Proofs.Ytlmighkbeacjnaa
