/- geo.Leaves, a level, the reference's numbers. -/
import Derived.Test.YtlmighkbeacjnaaC2
open Go Go.Lg
set_option linter.unusedSimpArgs false
set_option maxHeartbeats 2000000
namespace Go.Proofs.Ytlmighkbeacjnaa
theorem pf94 (c : Cf) : PF Try.prog 94 [.agg c.cells] (fun r => r = .bool c.ok) := by
  refine pf_of_w0 Try.func94 (c := _) rfl rfl (Nat.le_of_ble_eq_true rfl) (by simp only [Cf.cells, pur_bool, pur_int, pur_str, pur_empty, pur_nilptr, pur_nilFunc, pur_nilIface, pur_any, pur_agg, pur_tuple, pur_vptr, pur_view, pur_iface, pur_func, tup, List.mem_cons, forall_eq_or_imp, List.not_mem_nil, false_implies, implies_true, and_self, forall_const, forall_eq]) ?_
  rw [show Try.f94.ntmps = 46 from rfl]
  have tE := And.intro (@upd_upd AV) <| And.intro (@upd_upd (Option Blk)) <| And.intro Cf.cells.eq_1 <| And.intro ty3 <| And.intro ty4 <| And.intro ty23 <| Try.results94; repeat' first | ((with_reducible first | apply w_seq | apply w_region | apply wl_nil | apply wr_nil | apply wr_nilA | apply wr_nilE | apply go_normal | apply go_ret | apply go_exit | apply blk_normal | apply blk_ret | apply blk_here | apply w_block | apply w_skip | apply w_exit | apply w_label)) | ((with_reducible first | apply wz (tok Try.prog) | apply wr_z (tok Try.prog)); exact zZ; decide) | ((with_reducible first | apply wzg (tok Try.prog) | apply wr_zg (tok Try.prog)); exact zU; exact zL; exact zU; exact zZ; decide) | ((with_reducible first | apply wskip' | apply wr_skip); exact zU; exact zL; exact zU; decide) | ((with_reducible first | apply wcall' | apply wr_call); exact zV; exact zVs; exact zAs; (focus (with_unfolding_all first | exact pf103 _ _ _)); decide) | ((with_reducible first | apply wcallg' | apply wr_callg); exact zU; exact zL; exact zU; exact zV; exact zVs; exact zAs; (focus (with_unfolding_all first | exact pf103 _ _ _)); decide) | ((with_reducible first | apply wsplit | apply wr_split); exact zU; exact zL; constructor <;> intro _) | ((with_reducible apply w_ret); (repeat (with_reducible first | apply go_ret | apply blk_ret)); (with_reducible apply done_ret (tok Try.prog)); exact zT; exact zD; exact zX) | fail
  all_goals try clear tE
  all_goals first | (simp_all [tup, Cf.ok, Cf.spans, inB]; done) | (simp_all [tup, Cf.ok, Cf.spans, inB]; omega)
def geoBad (x : Int) : Bool := decide (x < 1 ∨ 6 < x)
theorem pf111 (x : Int) : PF Try.prog 111 [.int .i64 x, .empty] (fun r => r = .int .i64 (if x < 1 ∨ 6 < x then 2 else 0)) := by
  refine pf_of_w0 Try.func111 (c := _) rfl rfl (Nat.le_of_ble_eq_true rfl) (by simp only [pur_bool, pur_int, pur_str, pur_empty, pur_nilptr, pur_nilFunc, pur_nilIface, pur_any, pur_agg, pur_tuple, pur_vptr, pur_view, pur_iface, pur_func, tup, List.mem_cons, forall_eq_or_imp, List.not_mem_nil, false_implies, implies_true, and_self, forall_const, forall_eq]) ?_
  rw [show Try.f111.ntmps = 28 from rfl]
  by_cases hx : x < 1 ∨ 6 < x
  · have e : (if x < 1 ∨ 6 < x then (2 : Int) else 0) = 2 := if_pos hx
    have tE := And.intro (@upd_upd AV) <| And.intro (@upd_upd (Option Blk)) <| And.intro ty3 <| And.intro ty4 <| And.intro ty35 <| And.intro ty29 <| And.intro Try.results111 <| e; repeat' first | ((with_reducible first | apply w_seq | apply w_region | apply wl_nil | apply wr_nil | apply wr_nilA | apply wr_nilE | apply go_normal | apply go_ret | apply go_exit | apply blk_normal | apply blk_ret | apply blk_here | apply w_block | apply w_skip | apply w_exit | apply w_label)) | ((with_reducible first | apply wz (tok Try.prog) | apply wr_z (tok Try.prog)); exact zZ; decide) | ((with_reducible first | apply wcall' | apply wr_call); exact zV; exact zVs; exact zAs; (focus (with_unfolding_all first | exact pf112 _)); decide) | ((with_reducible first | apply w_ift'); exact zV; exact zU) | ((with_reducible apply w_ret); (repeat (with_reducible first | apply go_ret | apply blk_ret)); (with_reducible apply done_ret (tok Try.prog)); exact zT; exact zD; exact zX) | fail
    all_goals try clear tE
    all_goals simp_all [tup]
  · have e : (if x < 1 ∨ 6 < x then (2 : Int) else 0) = 0 := if_neg hx
    have tE := And.intro (@upd_upd AV) <| And.intro (@upd_upd (Option Blk)) <| And.intro ty3 <| And.intro ty4 <| And.intro ty35 <| And.intro ty29 <| And.intro Try.results111 <| e; repeat' first | ((with_reducible first | apply w_seq | apply w_region | apply wl_nil | apply wr_nil | apply wr_nilA | apply wr_nilE | apply go_normal | apply go_ret | apply go_exit | apply blk_normal | apply blk_ret | apply blk_here | apply w_block | apply w_skip | apply w_exit | apply w_label)) | ((with_reducible first | apply wz (tok Try.prog) | apply wr_z (tok Try.prog)); exact zZ; decide) | ((with_reducible first | apply wcall' | apply wr_call); exact zV; exact zVs; exact zAs; (focus (with_unfolding_all first | exact pf112 _)); decide) | ((with_reducible first | apply w_iff'); exact zV; exact zU) | fail
    all_goals try clear tE
    refine w_once ?_
    have tE := And.intro (@upd_upd AV) <| And.intro (@upd_upd (Option Blk)) <| And.intro ty3 <| And.intro ty4 <| And.intro ty35 <| And.intro ty29 <| And.intro Try.results111 <| e; repeat' first | ((with_reducible first | apply w_seq | apply w_region | apply wl_nil | apply wr_nil | apply wr_nilA | apply wr_nilE | apply go_normal | apply go_ret | apply go_exit | apply blk_normal | apply blk_ret | apply blk_here | apply w_block | apply w_skip | apply w_exit | apply w_label)) | ((with_reducible first | apply wz (tok Try.prog) | apply wr_z (tok Try.prog)); exact zZ; decide) | ((with_reducible first | apply w_iff'); exact zV; exact zU) | ((with_reducible apply w_ret); (repeat (with_reducible first | apply go_ret | apply blk_ret)); (with_reducible apply done_ret (tok Try.prog)); exact zT; exact zD; exact zX) | fail
    all_goals try clear tE
    all_goals simp_all [tup]
def lv (x : Int) : Int := if x < 1 ∨ 6 < x then 0 else if x = 1 then 2 else if x = 2 then 4 else if x = 3 then 8 else if x = 4 then 16 else if x = 5 then 32 else 64
def le_ (x : Int) : Int := if x < 1 ∨ 6 < x then 2 else 0
theorem pf110 (x : Int) : PF Try.prog 110 [.int .i64 x] (fun r => r = .tuple [.int .i64 (lv x), .int .i64 (le_ x)]) := by
  refine pf_of_w0 Try.func110 (c := _) rfl rfl (Nat.le_of_ble_eq_true rfl) (by simp only [pur_bool, pur_int, pur_str, pur_empty, pur_nilptr, pur_nilFunc, pur_nilIface, pur_any, pur_agg, pur_tuple, pur_vptr, pur_view, pur_iface, pur_func, tup, List.mem_cons, forall_eq_or_imp, List.not_mem_nil, false_implies, implies_true, and_self, forall_const, forall_eq]) ?_
  rw [show Try.f110.ntmps = 12 from rfl]
  by_cases hx : x < 1 ∨ 6 < x
  · have e : (if x < 1 ∨ 6 < x then (2 : Int) else 0) = 2 := if_pos hx
    have e2 : lv x = 0 := if_pos hx
    have e3 : le_ x = 2 := if_pos hx
    have tE := And.intro (@upd_upd AV) <| And.intro (@upd_upd (Option Blk)) <| And.intro ty3 <| And.intro ty4 <| And.intro ty35 <| And.intro ty29 <| And.intro Try.results110 <| e; repeat' first | ((with_reducible first | apply w_seq | apply w_region | apply wl_nil | apply wr_nil | apply wr_nilA | apply wr_nilE | apply go_normal | apply go_ret | apply go_exit | apply blk_normal | apply blk_ret | apply blk_here | apply w_block | apply w_skip | apply w_exit | apply w_label)) | ((with_reducible first | apply wz (tok Try.prog) | apply wr_z (tok Try.prog)); exact zZ; decide) | ((with_reducible first | apply wcall' | apply wr_call); exact zV; exact zVs; exact zAs; (focus (with_unfolding_all first | exact pf111 _)); decide) | ((with_reducible first | apply w_ift'); exact zV; exact zU) | ((with_reducible apply w_ret); (repeat (with_reducible first | apply go_ret | apply blk_ret)); (with_reducible apply done_ret (tok Try.prog)); exact zT; exact zD; exact zX) | fail
    all_goals try clear tE
    rw [e2, e3]; rfl
  · have e : (if x < 1 ∨ 6 < x then (2 : Int) else 0) = 0 := if_neg hx
    have e3 : le_ x = 0 := if_neg hx
    have hx0 : ¬ x < 0 := by omega
    have tE := And.intro (@upd_upd AV) <| And.intro (@upd_upd (Option Blk)) <| And.intro ty3 <| And.intro ty4 <| And.intro ty35 <| And.intro ty29 <| And.intro Try.results110 <| And.intro e <| hx0; repeat' first | ((with_reducible first | apply w_seq | apply w_region | apply wl_nil | apply wr_nil | apply wr_nilA | apply wr_nilE | apply go_normal | apply go_ret | apply go_exit | apply blk_normal | apply blk_ret | apply blk_here | apply w_block | apply w_skip | apply w_exit | apply w_label)) | ((with_reducible first | apply wz (tok Try.prog) | apply wr_z (tok Try.prog)); exact zZ; decide) | ((with_reducible first | apply wcall' | apply wr_call); exact zV; exact zVs; exact zAs; (focus (with_unfolding_all first | exact pf111 _)); decide) | ((with_reducible first | apply w_iff'); exact zV; exact zU) | ((with_reducible apply w_ret); (repeat (with_reducible first | apply go_ret | apply blk_ret)); (with_reducible apply done_ret (tok Try.prog)); exact zT; exact zD; exact zX) | fail
    all_goals try clear tE
    rw [e3]
    have hc : x = 1 ∨ x = 2 ∨ x = 3 ∨ x = 4 ∨ x = 5 ∨ x = 6 := by omega
    rcases hc with rfl | rfl | rfl | rfl | rfl | rfl <;> rfl
/-- The height of a row of 'n' leaves. -/
def hi (n : Int) : Int := if n ≤ 2 then 1 else if n ≤ 4 then 2 else if n ≤ 8 then 3 else if n ≤ 16 then 4 else if n ≤ 32 then 5 else if n ≤ 64 then 6 else 7
theorem hi_eq {n : Int} {h : Nat} (h1 : 1 ≤ h) (h2 : h ≤ 7) (hl : ∀ k : Nat, 1 ≤ k → k < h → lv k < n) (hu : h = 7 ∨ n ≤ lv h) : hi n = h := by
  have hc : h = 1 ∨ h = 2 ∨ h = 3 ∨ h = 4 ∨ h = 5 ∨ h = 6 ∨ h = 7 := by omega
  have l1 : lv (1 : Nat) = 2 := rfl
  have l2 : lv (2 : Nat) = 4 := rfl
  have l3 : lv (3 : Nat) = 8 := rfl
  have l4 : lv (4 : Nat) = 16 := rfl
  have l5 : lv (5 : Nat) = 32 := rfl
  have l6 : lv (6 : Nat) = 64 := rfl
  unfold hi
  have g1 := hl 1; have g2 := hl 2; have g3 := hl 3; have g4 := hl 4; have g5 := hl 5; have g6 := hl 6
  rw [l1] at g1; rw [l2] at g2; rw [l3] at g3; rw [l4] at g4; rw [l5] at g5; rw [l6] at g6
  rcases hc with rfl | rfl | rfl | rfl | rfl | rfl | rfl
  · rw [l1] at hu; rw [if_pos (by omega)]; rfl
  · rw [l2] at hu; rw [if_neg (by omega), if_pos (by omega)]; rfl
  · rw [l3] at hu; rw [if_neg (by omega), if_neg (by omega), if_pos (by omega)]; rfl
  · rw [l4] at hu; rw [if_neg (by omega), if_neg (by omega), if_neg (by omega), if_pos (by omega)]; rfl
  · rw [l5] at hu; rw [if_neg (by omega), if_neg (by omega), if_neg (by omega), if_neg (by omega), if_pos (by omega)]; rfl
  · rw [l6] at hu; rw [if_neg (by omega), if_neg (by omega), if_neg (by omega), if_neg (by omega), if_neg (by omega), if_pos (by omega)]; rfl
  · rw [if_neg (by omega), if_neg (by omega), if_neg (by omega), if_neg (by omega), if_neg (by omega), if_neg (by omega)]; rfl
end Go.Proofs.Ytlmighkbeacjnaa
