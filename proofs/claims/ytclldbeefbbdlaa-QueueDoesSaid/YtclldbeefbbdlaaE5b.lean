/- The reference's Put. -/
import Derived.Test.YtclldbeefbbdlaaE5
open Go Go.Lg
set_option linter.unusedSimpArgs false
set_option linter.unusedVariables false
set_option maxHeartbeats 4000000
set_option maxRecDepth 20000
namespace Go.Proofs.Ytclldbeefbbdlaa
/-- The reference's Put. -/
theorem pf37_ok (c : Cf) (q m : List Un) (hq : q.length ≤ 1000) (hm : m.length ≤ 1000) (hdq : ∀ u, u ∈ q → u.d.length ≤ 1000000) (hdm : ∀ u, u ∈ m → u.d.length ≤ 1000000) (h : put1 c q m = true) (hroom : (q.length : Int) + m.length ≤ c.q) : PF Try.prog 37 [.agg c.cells, .view (unRows q), .view (unRows m)] (fun r => r = .tuple [.view (unRows (q ++ m)), .int .i64 0]) := by
  have hk : qok c q = true := by simp only [put1, Bool.and_eq_true] at h; exact h.1
  have ha : m.all (mayU c) = true := by simp only [put1, Bool.and_eq_true] at h; exact h.2
  have e1 : (if qok c q = true then (0 : Int) else 8) = 0 := if_pos hk
  have wr : IntKind.i64.wrap ((q.length : Int) + m.length) = (q.length : Int) + m.length := wrap64 (by omega) (by omega)
  have hgt : ¬ ((q.length : Int) + m.length > c.q) := by omega
  have p36q := pf36 q (by omega) hdq
  have p36m := pf36 m (by omega) hdm
  have hrm := unRows_row m
  have hsc : (unRows m).flatten.all scalA = true := by
    rw [List.all_eq_true]
    intro x hx
    obtain ⟨r, h1, h2⟩ := List.mem_flatten.1 hx
    simp only [unRows, List.mem_map] at h1
    obtain ⟨u, _, rfl⟩ := h1
    simp only [Un.cells, List.mem_cons, List.not_mem_nil, or_false] at h2
    rcases h2 with rfl | rfl | rfl | rfl <;> rfl
  refine pf_of_wf0 Try.func37 (c := _) rfl rfl (Nat.le_of_ble_eq_true rfl) (args_cll c q m) ?_
  rw [show Try.f37.ntmps = 31 from rfl]
  rcases Nat.eq_zero_or_pos q.length with hz | hz
  · have p36e : PF Try.prog 36 [.view (unRows [])] (fun r => r = .empty) := by
      refine pf_of_fz ⟨_, Try.func36, rfl, rfl⟩ (fun x hx => by rcases List.mem_singleton.1 hx with rfl; exact unRows_pur []) ((ac36 [] (by simp) (fun u hu => by cases hu)).mono ?_)
      rintro r H n ⟨h1, _⟩
      exact ⟨_, _, h1 rfl, .pur .empty, .empty, rfl⟩
    rcases Nat.eq_zero_or_pos m.length with hy | hy
    · obtain rfl := List.eq_nil_of_length_eq_zero hz
      obtain rfl := List.eq_nil_of_length_eq_zero hy
      have wr0 : IntKind.i64.wrap (((0 : Nat) : Int) + ((0 : Nat) : Int)) = 0 := rfl
      have hgt0 : ¬ ((0 : Int) > c.q) := by simpa using hgt
      have tE := And.intro (@upd_upd AV) <| And.intro (@upd_upd (Option Blk)) <| And.intro Cf.cells.eq_1 <| And.intro e1 <| And.intro ha <| And.intro wr0 <| And.intro hgt0 <| And.intro unRows_len <| And.intro ty3 <| And.intro ty4 <| And.intro ty5 <| And.intro ty23 <| And.intro ty55 <| And.intro ty56 <| And.intro ty58 <| Try.results37; repeat' first | ((with_reducible first | apply w_seq | apply w_region | apply wl_nil | apply wr_nil | apply wr_nilA | apply wr_nilE | apply go_normal | apply go_ret | apply go_exit | apply blk_normal | apply blk_ret | apply blk_here | apply w_block | apply w_skip | apply w_exit | apply w_label)) | ((with_reducible first | apply wz (tok Try.prog) | apply wr_z (tok Try.prog)); exact zZ; decide) | ((with_reducible first | apply wzg (tok Try.prog) | apply wr_zg (tok Try.prog)); exact zU; exact zL; exact zU; exact zZ; decide) | ((with_reducible first | apply wcall' | apply wr_call); exact zV; exact zVs; exact zAs; (focus (with_unfolding_all first | exact pf41 c [] (by simp) | exact pf66 c [] (by simp) | exact p36e)); decide) | ((with_reducible first | apply wcallg' | apply wr_callg); exact zU; exact zL; exact zU; exact zV; exact zVs; exact zAs; (focus (with_unfolding_all first | exact pf41 c [] (by simp) | exact pf66 c [] (by simp) | exact p36e)); decide) | ((with_reducible first | apply wp | apply wr_p); (focus (first | ((with_reducible first | apply p_slv (tok Try.prog)); exact zT; exact zU; exact zT; exact zV; exact zN; exact zN; (focus (first | exact zU | exact zB)); (focus (first | exact zU | exact zB)); (focus (first | exact zU | assumption))) | ((with_reducible first | apply p_slo (tok Try.prog)); exact zT; exact zU; exact zT; exact zV; exact zN; exact zN; (focus (first | exact zU | exact zB)); (focus (first | exact zU | exact zB)); (focus (first | exact zU | assumption))) | ((with_reducible first | apply p_nil (tok Try.prog) | apply p_nnil (tok Try.prog)); exact zT; exact zV; exact zU) | ((with_reducible first | apply p_bs0 (tok Try.prog)); exact zT; exact zU; exact zT) | ((with_reducible first | apply p_ap0 (tok Try.prog)); exact zT; exact zU; exact zT; exact zT; exact zU; exact zA; exact zV; (focus (first | exact Or.inl rfl | exact Or.inr rfl))) | ((with_reducible first | apply p_bytes (tok Try.prog)); exact zT; exact zU; exact zT; exact zU; exact zT; exact zU; exact zV))); decide) | ((with_reducible first | apply w_iff'); exact zV; exact zU) | ((with_reducible apply w_ret); (repeat (with_reducible first | apply go_ret | apply blk_ret)); (with_reducible first | apply donef_ret (tok Try.prog) | apply doneA_ret (tok Try.prog)); exact zT; exact zD) | fail
      all_goals try clear tE
      · exact FzL.tuple (ys := [.view [], .int .i64 0]) (.cons .nothing (.cons (.pur (.int _ _)) .nil))
      · exact ue_pur [] 0
      · rfl
    · obtain rfl := List.eq_nil_of_length_eq_zero hz
      have h0m : 0 < (unRows m).length := by rw [unRows_len]; exact hy
      have wr0 : IntKind.i64.wrap (((0 : Nat) : Int) + (m.length : Int)) = m.length := by rw [wrap64 (by omega) (by omega)]; omega
      have hgt0 : ¬ ((m.length : Int) > c.q) := by simp at hroom; omega
      have tE := And.intro (@upd_upd AV) <| And.intro (@upd_upd (Option Blk)) <| And.intro Cf.cells.eq_1 <| And.intro e1 <| And.intro ha <| And.intro wr0 <| And.intro hgt0 <| And.intro unRows_len <| And.intro ty3 <| And.intro ty4 <| And.intro ty5 <| And.intro ty23 <| And.intro ty55 <| And.intro ty56 <| And.intro ty58 <| Try.results37; repeat' first | ((with_reducible first | apply w_seq | apply w_region | apply wl_nil | apply wr_nil | apply wr_nilA | apply wr_nilE | apply go_normal | apply go_ret | apply go_exit | apply blk_normal | apply blk_ret | apply blk_here | apply w_block | apply w_skip | apply w_exit | apply w_label)) | ((with_reducible first | apply wz (tok Try.prog) | apply wr_z (tok Try.prog)); exact zZ; decide) | ((with_reducible first | apply wzg (tok Try.prog) | apply wr_zg (tok Try.prog)); exact zU; exact zL; exact zU; exact zZ; decide) | ((with_reducible first | apply wcall' | apply wr_call); exact zV; exact zVs; exact zAs; (focus (with_unfolding_all first | exact pf41 c [] (by simp) | exact pf66 c m (by omega) | exact p36e | exact p36m)); decide) | ((with_reducible first | apply wcallg' | apply wr_callg); exact zU; exact zL; exact zU; exact zV; exact zVs; exact zAs; (focus (with_unfolding_all first | exact pf41 c [] (by simp) | exact pf66 c m (by omega) | exact p36e | exact p36m)); decide) | ((with_reducible first | apply w_ap | apply wr_ap); (focus (first | (intro _ ho _ hr _; (with_reducible apply ap_new (tok Try.prog) ho (hr := hr)); exact zT; exact zU; exact zT; exact zT; exact zU; exact zA; exact zV; exact zK; exact zM; exact zK; exact zK; decide) | (intro _ ho _ hr _; (with_reducible apply ap_own (tok Try.prog) ho (hr := hr)); exact zT; exact zU; exact zT; exact zT; exact zU; exact zV; exact zV; exact zH; exact zKo; exact zM; (focus (first | rfl | assumption)); exact zKo; exact zKo; decide))); decide) | ((with_reducible first | apply w_iff'); exact zV; exact zU) | ((with_reducible apply w_ret); (repeat (with_reducible first | apply go_ret | apply blk_ret)); (with_reducible first | apply donef_ret (tok Try.prog) | apply doneA_ret (tok Try.prog)); exact zT; exact zD) | fail
      all_goals try clear tE
      · refine FzL.tuple (ys := [.view (unRows m), .int .i64 0]) (.cons ?_ (.cons (.pur (.int _ _)) .nil))
        exact fz_rowsL (e := 58) (by rw [unRows_len]) (unRows_row m) (unRows_pur m) rfl
      · exact ue_pur m 0
      · rfl
  · have t36 := ac36o q hz (by omega) hdq
    have hfl : (unRows q).flatten.length = q.length * 4 := unFlat_len q
    have hfm : (unRows q).flatten ++ (unRows m).flatten = (unRows (q ++ m)).flatten := by simp [unRows]
    have tE := And.intro (@upd_upd AV) <| And.intro (@upd_upd (Option Blk)) <| And.intro Cf.cells.eq_1 <| And.intro e1 <| And.intro ha <| And.intro wr <| And.intro hgt <| And.intro hfl <| And.intro unRows_len <| And.intro ty3 <| And.intro ty4 <| And.intro ty5 <| And.intro ty23 <| And.intro ty55 <| And.intro ty56 <| And.intro ty58 <| Try.results37; repeat' first | ((with_reducible first | apply w_seq | apply w_region | apply wl_nil | apply wr_nil | apply wr_nilA | apply wr_nilE | apply go_normal | apply go_ret | apply go_exit | apply blk_normal | apply blk_ret | apply blk_here | apply w_block | apply w_skip | apply w_exit | apply w_label)) | ((with_reducible first | apply wz (tok Try.prog) | apply wr_z (tok Try.prog)); exact zZ; decide) | ((with_reducible first | apply wzg (tok Try.prog) | apply wr_zg (tok Try.prog)); exact zU; exact zL; exact zU; exact zZ; decide) | ((with_reducible first | apply wcall' | apply wr_call); exact zV; exact zVs; exact zAs; (focus (with_unfolding_all first | exact pf41 c q (by omega) | exact pf66 c m (by omega) | exact p36m)); decide) | ((with_reducible first | apply wcallg' | apply wr_callg); exact zU; exact zL; exact zU; exact zV; exact zVs; exact zAs; (focus (with_unfolding_all first | exact pf41 c q (by omega) | exact pf66 c m (by omega) | exact p36m)); decide) | ((with_reducible first | apply w_ap | apply wr_ap); (focus (first | (intro _ ho _ hr _; (with_reducible apply ap_new (tok Try.prog) ho (hr := hr)); exact zT; exact zU; exact zT; exact zT; exact zU; exact zA; exact zV; exact zK; exact zM; exact zK; exact zK; decide) | (intro _ ho _ hr _; (with_reducible apply ap_own (tok Try.prog) ho (hr := hr)); exact zT; exact zU; exact zT; exact zT; exact zU; exact zV; exact zV; exact zH; exact zKo; exact zM; (focus (first | rfl | assumption)); exact zKo; exact zKo; decide))); decide) | ((with_reducible first | apply wacall'); exact zV; exact zVs; exact zAs; (focus (first | exact ⟨_, Try.func36, rfl, rfl⟩)); (focus (with_unfolding_all first | exact t36 _ _)); decide) | ((with_reducible first | apply w_iff'); exact zV; exact zU) | ((with_reducible apply w_ret); (repeat (with_reducible first | apply go_ret | apply blk_ret)); (with_reducible first | apply donef_ret (tok Try.prog) | apply doneA_ret (tok Try.prog)); exact zT; exact zD) | fail
    all_goals try clear tE
    · refine FzL.tuple (ys := [.view (unRows (q ++ m)), .int .i64 0]) (.cons ?_ (.cons (.pur (.int _ _)) .nil))
      exact fz_rowsL (e := 58) (by simp [unRows_len]) (unRows_row (q ++ m)) (unRows_pur (q ++ m)) (by rw [← hfm]; rfl)
    · exact ue_pur (q ++ m) 0
    · rfl
theorem pf37 (c : Cf) (q m : List Un) (hq : q.length ≤ 1000) (hm : m.length ≤ 1000) (hdq : ∀ u, u ∈ q → u.d.length ≤ 1000000) (hdm : ∀ u, u ∈ m → u.d.length ≤ 1000000) : PF Try.prog 37 [.agg c.cells, .view (unRows q), .view (unRows m)] (fun r => r = .tuple [.view (unRows (putU c q m)), .int .i64 (putE c q m)]) := by
  cases h : put1 c q m with
  | false =>
    rw [show putU c q m = [] from if_neg (by rw [h]; simp), show putE c q m = 8 from if_neg (by rw [h]; simp)]
    refine ue_weak ?_
    refine pf_of_w0 Try.func37 (c := _) rfl rfl (Nat.le_of_ble_eq_true rfl) (args_cll c q m) ?_
    rw [show Try.f37.ntmps = 31 from rfl]
    cases hk : qok c q with
    | false =>
      have e1 : (if qok c q = true then (0 : Int) else 8) = 8 := if_neg (by rw [hk]; simp)
      have tE := And.intro (@upd_upd AV) <| And.intro (@upd_upd (Option Blk)) <| And.intro Cf.cells.eq_1 <| And.intro e1 <| And.intro ty3 <| And.intro ty4 <| And.intro ty5 <| And.intro ty23 <| And.intro ty55 <| And.intro ty56 <| And.intro ty58 <| Try.results37; repeat' first | ((with_reducible first | apply w_seq | apply w_region | apply wl_nil | apply wr_nil | apply wr_nilA | apply wr_nilE | apply go_normal | apply go_ret | apply go_exit | apply blk_normal | apply blk_ret | apply blk_here | apply w_block | apply w_skip | apply w_exit | apply w_label)) | ((with_reducible first | apply wz (tok Try.prog) | apply wr_z (tok Try.prog)); exact zZ; decide) | ((with_reducible first | apply wskip' | apply wr_skip); exact zU; exact zL; exact zU; decide) | ((with_reducible first | apply wcall' | apply wr_call); exact zV; exact zVs; exact zAs; (focus (with_unfolding_all first | exact pf41 c q (by omega) | exact pf66 c m (by omega))); decide) | ((with_reducible first | apply w_ift'); exact zV; exact zU) | ((with_reducible apply w_ret); (repeat (with_reducible first | apply go_ret | apply blk_ret)); (with_reducible apply done_ret (tok Try.prog)); exact zT; exact zD; exact zX) | fail
      all_goals try clear tE
      rfl
    | true =>
      have e1 : (if qok c q = true then (0 : Int) else 8) = 0 := if_pos hk
      have ha : m.all (mayU c) = false := by simp only [put1, hk, Bool.true_and] at h; exact h
      have tE := And.intro (@upd_upd AV) <| And.intro (@upd_upd (Option Blk)) <| And.intro Cf.cells.eq_1 <| And.intro e1 <| And.intro ha <| And.intro ty3 <| And.intro ty4 <| And.intro ty5 <| And.intro ty23 <| And.intro ty55 <| And.intro ty56 <| And.intro ty58 <| Try.results37; repeat' first | ((with_reducible first | apply w_seq | apply w_region | apply wl_nil | apply wr_nil | apply wr_nilA | apply wr_nilE | apply go_normal | apply go_ret | apply go_exit | apply blk_normal | apply blk_ret | apply blk_here | apply w_block | apply w_skip | apply w_exit | apply w_label)) | ((with_reducible first | apply wz (tok Try.prog) | apply wr_z (tok Try.prog)); exact zZ; decide) | ((with_reducible first | apply wzg (tok Try.prog) | apply wr_zg (tok Try.prog)); exact zU; exact zL; exact zU; exact zZ; decide) | ((with_reducible first | apply wcall' | apply wr_call); exact zV; exact zVs; exact zAs; (focus (with_unfolding_all first | exact pf41 c q (by omega) | exact pf66 c m (by omega))); decide) | ((with_reducible first | apply wcallg' | apply wr_callg); exact zU; exact zL; exact zU; exact zV; exact zVs; exact zAs; (focus (with_unfolding_all first | exact pf41 c q (by omega) | exact pf66 c m (by omega))); decide) | ((with_reducible first | apply w_ift'); exact zV; exact zU) | ((with_reducible apply w_ret); (repeat (with_reducible first | apply go_ret | apply blk_ret)); (with_reducible apply done_ret (tok Try.prog)); exact zT; exact zD; exact zX) | fail
      all_goals try clear tE
      rfl
  | true =>
    by_cases hr : (q.length : Int) + m.length ≤ c.q
    · rw [show putU c q m = q ++ m from if_pos ⟨h, hr⟩, show putE c q m = 0 by simp [putE, h, hr]]
      exact pf37_ok c q m hq hm hdq hdm h hr
    · rw [show putU c q m = [] from if_neg (fun hh => hr hh.2), show putE c q m = 230 by simp only [putE, h, hr, if_true, if_false]]
      refine ue_weak ?_
      have hk : qok c q = true := by simp only [put1, Bool.and_eq_true] at h; exact h.1
      have ha : m.all (mayU c) = true := by simp only [put1, Bool.and_eq_true] at h; exact h.2
      have e1 : (if qok c q = true then (0 : Int) else 8) = 0 := if_pos hk
      have wr : IntKind.i64.wrap ((q.length : Int) + m.length) = (q.length : Int) + m.length := wrap64 (by omega) (by omega)
      have hgt : ((q.length : Int) + m.length > c.q) := by omega
      refine pf_of_w0 Try.func37 (c := _) rfl rfl (Nat.le_of_ble_eq_true rfl) (args_cll c q m) ?_
      rw [show Try.f37.ntmps = 31 from rfl]
      have tE := And.intro (@upd_upd AV) <| And.intro (@upd_upd (Option Blk)) <| And.intro Cf.cells.eq_1 <| And.intro e1 <| And.intro ha <| And.intro wr <| And.intro hgt <| And.intro unRows_len <| And.intro ty3 <| And.intro ty4 <| And.intro ty5 <| And.intro ty23 <| And.intro ty55 <| And.intro ty56 <| And.intro ty58 <| Try.results37; repeat' first | ((with_reducible first | apply w_seq | apply w_region | apply wl_nil | apply wr_nil | apply wr_nilA | apply wr_nilE | apply go_normal | apply go_ret | apply go_exit | apply blk_normal | apply blk_ret | apply blk_here | apply w_block | apply w_skip | apply w_exit | apply w_label)) | ((with_reducible first | apply wz (tok Try.prog) | apply wr_z (tok Try.prog)); exact zZ; decide) | ((with_reducible first | apply wzg (tok Try.prog) | apply wr_zg (tok Try.prog)); exact zU; exact zL; exact zU; exact zZ; decide) | ((with_reducible first | apply wcall' | apply wr_call); exact zV; exact zVs; exact zAs; (focus (with_unfolding_all first | exact pf41 c q (by omega) | exact pf66 c m (by omega))); decide) | ((with_reducible first | apply wcallg' | apply wr_callg); exact zU; exact zL; exact zU; exact zV; exact zVs; exact zAs; (focus (with_unfolding_all first | exact pf41 c q (by omega) | exact pf66 c m (by omega))); decide) | ((with_reducible first | apply w_ift'); exact zV; exact zU) | ((with_reducible first | apply w_iff'); exact zV; exact zU) | ((with_reducible apply w_ret); (repeat (with_reducible first | apply go_ret | apply blk_ret)); (with_reducible apply done_ret (tok Try.prog)); exact zT; exact zD; exact zX) | fail
      all_goals try clear tE
      rfl
end Go.Proofs.Ytclldbeefbbdlaa
