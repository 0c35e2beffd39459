/- QueueOrder computes true. -/
import Derived.Test.YtclldbeefbbdlaaE7
open Go Go.Lg
set_option linter.unusedSimpArgs false
set_option linter.unusedVariables false
set_option maxHeartbeats 4000000
set_option maxRecDepth 20000
namespace Go.Proofs.Ytclldbeefbbdlaa
theorem great_no {l : List Un} (h : great l = false) : l.length ≤ 40 ∧ ∀ u, u ∈ l → u.d.length ≤ 100 := by
  simp only [great, Bool.or_eq_false_iff, decide_eq_false_iff_not, List.any_eq_false, decide_eq_true_eq] at h
  have h1 : l.length ≤ 40 := by omega
  refine ⟨h1, fun u hu => ?_⟩
  have := h.1 u (by rw [List.take_of_length_le h1]; exact hu)
  omega
theorem pf9_great (c : Cf) (q m : List Un) (h : great q = true ∨ great m = true) : PF Try.prog 9 [.agg c.cells, .view (unRows q), .view (unRows m)] (fun r => r = .bool true) := by
  refine pf_of_w0 Try.func9 (c := _) rfl rfl (Nat.le_of_ble_eq_true rfl) (args_cll c q m) ?_
  rw [show Try.f9.ntmps = 135 from rfl]
  cases hq : great q with
  | true =>
    have tE := And.intro (@upd_upd AV) <| And.intro (@upd_upd (Option Blk)) <| And.intro hq <| And.intro ty3 <| And.intro ty4 <| And.intro ty5 <| And.intro ty23 <| And.intro ty25 <| And.intro ty55 <| And.intro ty56 <| And.intro ty58 <| Try.results9; repeat' first | ((with_reducible first | apply w_seq | apply w_region | apply wl_nil | apply wr_nil | apply wr_nilA | apply wr_nilE | apply go_normal | apply go_ret | apply go_exit | apply blk_normal | apply blk_ret | apply blk_here | apply w_block | apply w_skip | apply w_exit)) | ((with_reducible first | apply wz (tok Try.prog) | apply wr_z (tok Try.prog)); exact zZ; decide) | ((with_reducible first | apply wskip' | apply wr_skip); exact zU; exact zL; exact zU; decide) | ((with_reducible first | apply wcall' | apply wr_call); exact zV; exact zVs; exact zAs; (focus (with_unfolding_all first | exact pf32 | exact pf34 q | exact pf34 m)); decide) | ((with_reducible first | apply w_ift'); exact zV; exact zU) | ((with_reducible apply w_ret); (repeat (with_reducible first | apply go_ret | apply blk_ret)); (with_reducible apply done_ret (tok Try.prog)); exact zT; exact zD; exact zX)
    all_goals try clear tE
    rfl
  | false =>
    have hm : great m = true := by rcases h with h | h <;> simp_all
    have tE := And.intro (@upd_upd AV) <| And.intro (@upd_upd (Option Blk)) <| And.intro hq <| And.intro hm <| And.intro ty3 <| And.intro ty4 <| And.intro ty5 <| And.intro ty23 <| And.intro ty25 <| And.intro ty55 <| And.intro ty56 <| And.intro ty58 <| Try.results9; repeat' first | ((with_reducible first | apply w_seq | apply w_region | apply wl_nil | apply wr_nil | apply wr_nilA | apply wr_nilE | apply go_normal | apply go_ret | apply go_exit | apply blk_normal | apply blk_ret | apply blk_here | apply w_block | apply w_skip | apply w_exit)) | ((with_reducible first | apply wz (tok Try.prog) | apply wr_z (tok Try.prog)); exact zZ; decide) | ((with_reducible first | apply wzg (tok Try.prog) | apply wr_zg (tok Try.prog)); exact zU; exact zL; exact zU; exact zZ; decide) | ((with_reducible first | apply wskip' | apply wr_skip); exact zU; exact zL; exact zU; decide) | ((with_reducible first | apply wcall' | apply wr_call); exact zV; exact zVs; exact zAs; (focus (with_unfolding_all first | exact pf32 | exact pf34 q | exact pf34 m)); decide) | ((with_reducible first | apply wcallg' | apply wr_callg); exact zU; exact zL; exact zU; exact zV; exact zVs; exact zAs; (focus (with_unfolding_all first | exact pf32 | exact pf34 q | exact pf34 m)); decide) | ((with_reducible first | apply w_ift'); exact zV; exact zU) | ((with_reducible apply w_ret); (repeat (with_reducible first | apply go_ret | apply blk_ret)); (with_reducible apply done_ret (tok Try.prog)); exact zT; exact zD; exact zX)
    all_goals try clear tE
    rfl
theorem pf9_err (c : Cf) (q m : List Un) (hq : great q = false) (hm : great m = false) (h : putE c q m ≠ 0) : PF Try.prog 9 [.agg c.cells, .view (unRows q), .view (unRows m)] (fun r => r = .bool true) := by
  obtain ⟨q1, q2⟩ := great_no hq
  obtain ⟨m1, m2⟩ := great_no hm
  have pp := pf29 c q m (by omega) (by omega) (fun u hu => Nat.le_trans (q2 u hu) (by decide)) (fun u hu => Nat.le_trans (m2 u hu) (by decide))
  have pu : putU c q m = [] := by
    unfold putU
    rw [if_neg]
    rintro ⟨h1, h2⟩
    exact h (by simp [putE, h1, h2])
  rw [pu] at pp
  refine pf_of_w0 Try.func9 (c := _) rfl rfl (Nat.le_of_ble_eq_true rfl) (args_cll c q m) ?_
  rw [show Try.f9.ntmps = 135 from rfl]
  by_cases h8 : put1 c q m = true
  · have hgt : ¬ ((q.length : Int) + m.length ≤ c.q) := fun hl => h (by simp [putE, h8, hl])
    have pe : putE c q m = 230 := by simp [putE, h8, hgt]
    rw [pe] at pp
    have hg1 : ((q.length : Int) + m.length > c.q) = True := eq_true (by omega)
    have wr : IntKind.i64.wrap ((q.length : Int) + m.length) = (q.length : Int) + m.length := wrap64 (by omega) (by omega)
    have tE := And.intro (@upd_upd AV) <| And.intro (@upd_upd (Option Blk)) <| And.intro Cf.cells.eq_1 <| And.intro hq <| And.intro hm <| And.intro wr <| And.intro hg1 <| And.intro unRows_len <| And.intro ty3 <| And.intro ty4 <| And.intro ty5 <| And.intro ty23 <| And.intro ty25 <| And.intro ty55 <| And.intro ty56 <| And.intro ty58 <| Try.results9; repeat' first | ((with_reducible first | apply w_seq | apply w_region | apply wl_nil | apply wr_nil | apply wr_nilA | apply wr_nilE | apply go_normal | apply go_ret | apply go_exit | apply blk_normal | apply blk_ret | apply blk_here | apply w_block | apply w_skip | apply w_exit)) | ((with_reducible first | apply wz (tok Try.prog) | apply wr_z (tok Try.prog)); exact zZ; decide) | ((with_reducible first | apply wzg (tok Try.prog) | apply wr_zg (tok Try.prog)); exact zU; exact zL; exact zU; exact zZ; decide) | ((with_reducible first | apply wcall' | apply wr_call); exact zV; exact zVs; exact zAs; (focus (with_unfolding_all first | exact pf32 | exact pf34 q | exact pf34 m | exact pp)); decide) | ((with_reducible first | apply wcallg' | apply wr_callg); exact zU; exact zL; exact zU; exact zV; exact zVs; exact zAs; (focus (with_unfolding_all first | exact pf32 | exact pf34 q | exact pf34 m | exact pp)); decide) | ((with_reducible first | apply w_ift'); exact zV; exact zU) | ((with_reducible first | apply w_iff'); exact zV; exact zU) | ((with_reducible apply w_ret); (repeat (with_reducible first | apply go_ret | apply blk_ret)); (with_reducible apply done_ret (tok Try.prog)); exact zT; exact zD; exact zX)
    all_goals try clear tE
    rfl
  · have pe : putE c q m = 8 := by simp [putE, h8]
    rw [pe] at pp
    have tE := And.intro (@upd_upd AV) <| And.intro (@upd_upd (Option Blk)) <| And.intro Cf.cells.eq_1 <| And.intro hq <| And.intro hm <| And.intro unRows_len <| And.intro ty3 <| And.intro ty4 <| And.intro ty5 <| And.intro ty23 <| And.intro ty25 <| And.intro ty55 <| And.intro ty56 <| And.intro ty58 <| Try.results9; repeat' first | ((with_reducible first | apply w_seq | apply w_region | apply wl_nil | apply wr_nil | apply wr_nilA | apply wr_nilE | apply go_normal | apply go_ret | apply go_exit | apply blk_normal | apply blk_ret | apply blk_here | apply w_block | apply w_skip | apply w_exit)) | ((with_reducible first | apply wz (tok Try.prog) | apply wr_z (tok Try.prog)); exact zZ; decide) | ((with_reducible first | apply wzg (tok Try.prog) | apply wr_zg (tok Try.prog)); exact zU; exact zL; exact zU; exact zZ; decide) | ((with_reducible first | apply wskip' | apply wr_skip); exact zU; exact zL; exact zU; decide) | ((with_reducible first | apply wcall' | apply wr_call); exact zV; exact zVs; exact zAs; (focus (with_unfolding_all first | exact pf32 | exact pf34 q | exact pf34 m | exact pp)); decide) | ((with_reducible first | apply wcallg' | apply wr_callg); exact zU; exact zL; exact zU; exact zV; exact zVs; exact zAs; (focus (with_unfolding_all first | exact pf32 | exact pf34 q | exact pf34 m | exact pp)); decide) | ((with_reducible first | apply w_ift'); exact zV; exact zU) | ((with_reducible first | apply w_iff'); exact zV; exact zU) | ((with_reducible apply w_ret); (repeat (with_reducible first | apply go_ret | apply blk_ret)); (with_reducible apply done_ret (tok Try.prog)); exact zT; exact zD; exact zX)
    all_goals try clear tE
    rfl
end Go.Proofs.Ytclldbeefbbdlaa
