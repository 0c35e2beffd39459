/- queue.Take and the reference's. The reference's Take. slices.Backward and its iterator. The reference's Ahead. -/
import Derived.Test.YtclldbeefbbdlaaE5b
open Go Go.Lg
set_option linter.unusedSimpArgs false
set_option linter.unusedVariables false
set_option maxHeartbeats 4000000
set_option maxRecDepth 20000
namespace Go.Proofs.Ytclldbeefbbdlaa
def uz : Un := ⟨0, 0, 0, []⟩
def takU (c : Cf) (q : List Un) : List Un := if qok c q = true then q.tail else []
def tak1 (c : Cf) (q : List Un) : Un := if qok c q = true then q.headD uz else uz
def takE (c : Cf) (q : List Un) : Int := if qok c q = true then (if q.length = 0 then 6 else 0) else 8
theorem tk_pur (l : List Un) (u : Un) (e : Int) : Pur (.tuple [.view (unRows l), .agg u.cells, .int .i64 e]) := .tuple (fun x hx => by
  simp only [List.mem_cons, List.not_mem_nil, or_false] at hx
  rcases hx with rfl | rfl | rfl
  · exact unRows_pur _
  · exact .agg (un_pur u)
  · exact .int _ _)
theorem fz_uz (H : Heap) : Fz H (.agg [.int .u8 0, .int .i64 0, .int .i64 0, .empty]) (.agg uz.cells) :=
  FzL.agg (.cons (.pur (.int _ _)) (.cons (.pur (.int _ _)) (.cons (.pur (.int _ _)) (.cons .nothing .nil))))
theorem fz_uw {H : Heap} (u : Un) : Fz H (.agg [.int .u8 u.k, .int .i64 u.p, .int .i64 u.f, .view (byteRows u.d)]) (.agg u.cells) := .pur (.agg (un_pur u))
theorem un_lens (l : List Un) : ∀ x, x ∈ unRows l → x.length = 4 := fun x hx => by
  obtain ⟨v, _, rfl⟩ := List.mem_map.1 hx
  rfl
theorem fz_tail {H : Heap} {id : Nat} {cap : Option Nat} {sz : Nat} {r : List AV} {rows : List (List AV)} {e : TypeId} {len : Nat} (hlen : rows.length = len) (hl : ∀ x, x ∈ r :: rows → x.length = sz) (hp : Pur (.view (r :: rows))) (hH : H id = some (.cells (r :: rows).flatten e)) : Fz H (.slice id sz len cap sz) (.view rows) := by
  subst hlen
  have hr : r.length = sz := hl r (by simp)
  have h2 : ∀ x, x ∈ rows → x.length = sz := fun x hx => hl x (by simp [hx])
  have hfl := flat_len h2
  have hd : ((r :: rows).flatten).drop sz = rows.flatten := by rw [List.flatten_cons, List.drop_append_of_le_length (by omega), ← hr, List.drop_length, List.nil_append]
  have h := fz_slice_pur (H := H) (len := rows.length) (off := sz) (cap := cap) (sz := sz) hH (by rw [List.flatten_cons, List.length_append, hfl]; omega) (flat_pur hp)
  rw [hd, List.take_of_length_le (by rw [hfl]; exact Nat.le_refl _), chunk_flatten h2] at h
  exact h
theorem pf27_bad (c : Cf) (q : List Un) (hq : q.length ≤ 1000000) (h : qok c q = false) : PF Try.prog 27 [.agg c.cells, .view (unRows q)] (fun r => r = .tuple [.view (unRows []), .agg uz.cells, .int .i64 8]) := by
  have e1 : (if qok c q = true then (0 : Int) else 8) = 8 := if_neg (by rw [h]; simp)
  refine pf_of_wf0 Try.func27 (c := _) rfl rfl (Nat.le_of_ble_eq_true rfl) (args_cl c q) ?_
  rw [show Try.f27.ntmps = 34 from rfl]
  have tE := And.intro (@upd_upd AV) <| And.intro (@upd_upd (Option Blk)) <| And.intro Cf.cells.eq_1 <| And.intro e1 <| And.intro ty3 <| And.intro ty4 <| And.intro ty5 <| And.intro ty23 <| And.intro ty25 <| And.intro ty55 <| And.intro ty56 <| And.intro ty58 <| And.intro ty106 <| Try.results27; repeat' first | ((with_reducible first | apply w_seq | apply w_region | apply wl_nil | apply wr_nil | apply wr_nilA | apply wr_nilE | apply go_normal | apply go_ret | apply go_exit | apply blk_normal | apply blk_ret | apply blk_here | apply w_block | apply w_skip | apply w_exit | apply w_label)) | ((with_reducible apply w_live (lvAt [[0, 1], [1, 2, 5], [1, 5, 7], [5, 7], [1, 5], [5, 8], [5, 8, 9], [5], [5, 8]])); (focus (simp only [lvAt_zero, lvAt_succ]; rfl)); exact zLv) | ((with_reducible first | apply wz (tok Try.prog) | apply wr_z (tok Try.prog)); exact zZ; decide) | ((with_reducible first | apply w_alloc (tok Try.prog)); exact zT; decide) | ((with_reducible first | apply wcall' | apply wr_call); exact zV; exact zVs; exact zAs; (focus (with_unfolding_all first | exact pf33 c q (by omega))); decide) | ((with_reducible first | apply w_ift'); exact zV; exact zU) | ((with_reducible first | apply fm_nil | apply fm_cons)) | ((with_reducible apply m_next); exact zU) | ((with_reducible apply m_nil0); exact zU) | ((with_reducible first | apply m_v (tok Try.prog)); exact zU; exact zZ; decide) | ((with_reducible first | apply m_x (tok Try.prog)); exact zU; (focus (decide +kernel)); exact zZ; decide) | ((with_reducible first | apply m_chg0); exact zU; (focus ((with_reducible apply c_store (tok Try.prog)); exact zV; exact zV; exact zS))) | ((with_reducible apply w_drawN (id := 3) [3] [([3], [0, 2, 3, 1, 4])] mixed); (focus (decide +kernel))) | ((with_reducible apply w_ret); (repeat (with_reducible first | apply go_ret | apply blk_ret)); (with_reducible first | apply donef_ret (tok Try.prog) | apply doneA_ret (tok Try.prog)); exact zT; exact zD) | fail
  all_goals try clear tE
  · exact FzL.tuple (ys := [.view [], .agg uz.cells, .int .i64 8]) (.cons .nothing (.cons (fz_uz _) (.cons (.pur (.int _ _)) .nil)))
  · exact tk_pur [] uz 8
  · rfl
theorem pf27_nil (c : Cf) (h : qok c [] = true) : PF Try.prog 27 [.agg c.cells, .view (unRows [])] (fun r => r = .tuple [.view (unRows []), .agg uz.cells, .int .i64 6]) := by
  have e1 : (if qok c [] = true then (0 : Int) else 8) = 0 := if_pos h
  refine pf_of_wf0 Try.func27 (c := _) rfl rfl (Nat.le_of_ble_eq_true rfl) (args_cl c []) ?_
  rw [show Try.f27.ntmps = 34 from rfl]
  have tE := And.intro (@upd_upd AV) <| And.intro (@upd_upd (Option Blk)) <| And.intro Cf.cells.eq_1 <| And.intro e1 <| And.intro ty3 <| And.intro ty4 <| And.intro ty5 <| And.intro ty23 <| And.intro ty25 <| And.intro ty55 <| And.intro ty56 <| And.intro ty58 <| And.intro ty106 <| And.intro Try.results27 <| Try.results61; repeat' first | ((with_reducible first | apply w_seq | apply w_region | apply wl_nil | apply wr_nil | apply wr_nilA | apply wr_nilE | apply go_normal | apply go_ret | apply go_exit | apply blk_normal | apply blk_ret | apply blk_here | apply w_block | apply w_skip | apply w_exit | apply w_label)) | ((with_reducible apply l_box (d := 20)); exact zV; exact zU; decide) | ((with_reducible first | apply wz (tok Try.prog) | apply wr_z (tok Try.prog)); exact zZ; decide) | ((with_reducible first | apply w_alloc (tok Try.prog)); exact zT; decide) | ((with_reducible first | apply w_store (tok Try.prog)); exact zV; exact zV; exact zS) | ((with_reducible first | apply wcall' | apply wr_call); exact zV; exact zVs; exact zAs; (focus (with_unfolding_all first | exact pf33 c [] (by simp) | exact pf43_nilE)); decide) | ((with_reducible first | apply wl_inl); exact zV; exact zVs; exact zAs; (focus (first | exact Try.func61)); (focus (rfl)); (focus (rfl)); (focus (rfl)); (focus (exact Nat.le_of_ble_eq_true rfl)); decide) | ((with_reducible apply w_ret); (repeat (with_reducible first | apply go_ret | apply blk_ret)); (with_reducible apply inl_ret (tok Try.prog)); exact zT; exact zD) | ((with_reducible first | apply w_ift'); exact zV; exact zU) | ((with_reducible first | apply w_iff'); exact zV; exact zU) | ((with_reducible first | apply fm_nil | apply fm_cons)) | ((with_reducible apply m_next); exact zU) | ((with_reducible apply m_nil0); exact zU) | ((with_reducible first | apply m_v (tok Try.prog)); exact zU; exact zZ; decide) | ((with_reducible first | apply m_x (tok Try.prog)); exact zU; (focus (decide +kernel)); exact zZ; decide) | ((with_reducible first | apply m_chg0); exact zU; (focus ((with_reducible apply c_store (tok Try.prog)); exact zV; exact zV; exact zS))) | ((with_reducible apply w_drawN (id := 7) [2] [([2], [0, 1, 2, 3])] mixed); (focus (decide +kernel))) | ((with_reducible apply w_ret); (repeat (with_reducible first | apply go_ret | apply blk_ret)); (with_reducible first | apply donef_ret (tok Try.prog) | apply doneA_ret (tok Try.prog)); exact zT; exact zD) | fail
  all_goals try clear tE
  · exact FzL.tuple (ys := [.view [], .agg uz.cells, .int .i64 6]) (.cons .nothing (.cons (fz_uz _) (.cons (.pur (.int _ _)) .nil)))
  · exact tk_pur [] uz 6
  · rfl
theorem pf27_ok (c : Cf) (u : Un) (q : List Un) (hq : (u :: q).length ≤ 1000000) (hd : ∀ x, x ∈ u :: q → x.d.length ≤ 1000000) (h : qok c (u :: q) = true) : PF Try.prog 27 [.agg c.cells, .view (unRows (u :: q))] (fun r => r = .tuple [.view (unRows q), .agg u.cells, .int .i64 0]) := by
  have e1 : (if qok c (u :: q) = true then (0 : Int) else 8) = 0 := if_pos h
  have t43 := ac43o (u :: q) (by simp) hq hd
  have t33 := pf33 c (u :: q) hq
  rw [List.length_cons] at t43 hq
  have hpos : ((0 : Int) < ((q.length + 1 : Nat) : Int)) = True := by simp; try omega
  have hgt : (((q.length + 1 : Nat) : Int) > 0) = True := by simp; try omega
  have hn : 1 ≤ q.length + 1 := by omega
  have ht4 : (unRows (u :: q)).flatten.take 4 = u.cells := by simp [unRows, Un.cells]
  have hl4 : (4 ≤ (unRows (u :: q)).flatten.length) = True := by rw [unFlat_len]; simp; try omega
  refine pf_of_wf0 Try.func27 (c := _) rfl rfl (Nat.le_of_ble_eq_true rfl) (args_cl c (u :: q)) ?_
  rw [show Try.f27.ntmps = 34 from rfl]
  have tE := And.intro (@upd_upd AV) <| And.intro (@upd_upd (Option Blk)) <| And.intro Cf.cells.eq_1 <| And.intro Un.cells.eq_1 <| And.intro e1 <| And.intro hpos <| And.intro hgt <| And.intro ht4 <| And.intro hl4 <| And.intro ty3 <| And.intro ty4 <| And.intro ty5 <| And.intro ty23 <| And.intro ty25 <| And.intro ty55 <| And.intro ty56 <| And.intro ty58 <| And.intro ty106 <| And.intro Try.results27 <| Try.results61; repeat' first | ((with_reducible first | apply w_seq | apply w_region | apply wl_nil | apply wr_nil | apply wr_nilA | apply wr_nilE | apply go_normal | apply go_ret | apply go_exit | apply blk_normal | apply blk_ret | apply blk_here | apply w_block | apply w_skip | apply w_exit | apply w_label)) | ((with_reducible apply l_box (d := 20)); exact zV; exact zU; decide) | ((with_reducible first | apply wz (tok Try.prog) | apply wr_z (tok Try.prog)); exact zZ; decide) | ((with_reducible first | apply w_alloc (tok Try.prog)); exact zT; decide) | ((with_reducible first | apply w_store (tok Try.prog)); exact zV; exact zV; exact zS) | ((with_reducible first | apply wcall' | apply wr_call); exact zV; exact zVs; exact zAs; (focus (with_unfolding_all first | exact t33)); decide) | ((with_reducible first | apply m_p); exact zU; (focus (first | ((with_reducible first | apply p_slv (tok Try.prog)); exact zT; exact zU; exact zT; exact zV; exact zN; exact zN; (focus (first | exact zU | exact zB)); (focus (first | exact zU | exact zB)); (focus (first | exact zU | assumption))) | ((with_reducible first | apply p_slo (tok Try.prog)); exact zT; exact zU; exact zT; exact zV; exact zN; exact zN; (focus (first | exact zU | exact zB)); (focus (first | exact zU | exact zB)); (focus (first | exact zU | assumption))) | ((with_reducible first | apply p_nil (tok Try.prog) | apply p_nnil (tok Try.prog)); exact zT; exact zV; exact zU) | ((with_reducible first | apply p_bs0 (tok Try.prog)); exact zT; exact zU; exact zT) | ((with_reducible first | apply p_ap0 (tok Try.prog)); exact zT; exact zU; exact zT; exact zT; exact zU; exact zA; exact zV; (focus (first | exact Or.inl rfl | exact Or.inr rfl))) | ((with_reducible first | apply p_bytes (tok Try.prog)); exact zT; exact zU; exact zT; exact zU; exact zT; exact zU; exact zV))); decide) | ((with_reducible first | apply wacall'); exact zV; exact zVs; exact zAs; (focus (first | exact ⟨_, Try.func43, rfl, rfl⟩)); (focus (with_unfolding_all first | exact t43 _ _)); decide) | ((with_reducible first | apply wl_inl); exact zV; exact zVs; exact zAs; (focus (first | exact Try.func61)); (focus (rfl)); (focus (rfl)); (focus (rfl)); (focus (exact Nat.le_of_ble_eq_true rfl)); decide) | ((with_reducible apply w_ret); (repeat (with_reducible first | apply go_ret | apply blk_ret)); (with_reducible apply inl_ret (tok Try.prog)); exact zT; exact zD) | ((with_reducible first | apply w_ift'); exact zV; exact zU) | ((with_reducible first | apply w_iff'); exact zV; exact zU) | ((with_reducible first | apply fm_nil | apply fm_cons)) | ((with_reducible apply m_next); exact zU) | ((with_reducible apply m_nil0); exact zU) | ((with_reducible first | apply m_v (tok Try.prog)); exact zU; exact zZ; decide) | ((with_reducible first | apply m_xA (tok Try.prog)); exact zU; exact zI; decide) | ((with_reducible first | apply m_x (tok Try.prog)); exact zU; (focus (decide +kernel)); exact zZ; decide) | ((with_reducible first | apply m_xo (tok Try.prog)); exact zU; exact zZ; decide) | ((with_reducible apply m_nilO); exact zU; (focus (simp only [List.reverse_cons, List.reverse_nil, List.nil_append, List.cons_append]; rfl)); (focus (simp only [OwedAll, Owed, Nat.reduceAdd]; (repeat' apply And.intro); all_goals first | exact trivial | (intro h; exact absurd h (by decide +kernel)) | (intro _; exact zW)))) | ((with_reducible first | apply m_chg0); exact zU; (focus ((with_reducible apply c_store (tok Try.prog)); exact zV; exact zV; exact zS))) | ((with_reducible apply w_drawN (id := 8) [6] [([6], [4, 0, 1, 2, 3, 5, 6, 7])] mixed); (focus (decide +kernel))) | ((with_reducible apply w_drawN (id := 2) [12, 15] [([12, 15], [1, 2, 3, 4, 5, 6, 12, 0, 7, 8, 9, 10, 11, 13, 14, 15, 16])] mixed); (focus (decide +kernel))) | ((with_reducible apply w_ret); (repeat (with_reducible first | apply go_ret | apply blk_ret)); (with_reducible first | apply donef_ret (tok Try.prog) | apply doneA_ret (tok Try.prog)); exact zT; exact zD) | fail
  all_goals try clear tE
  · refine FzL.tuple (ys := [.view (unRows q), .agg u.cells, .int .i64 0]) (.cons ?_ (.cons (fz_uw u) (.cons (.pur (.int _ _)) .nil)))
    refine fz_tail (r := u.cells) (e := 58) ?_ (un_lens (u :: q)) (unRows_pur (u :: q)) ?_
    · show (unRows q).length = q.length + 1 - 1
      simp [unRows, bnd]
    · rfl
  · exact tk_pur q u 0
  · rfl
theorem pf27 (c : Cf) (q : List Un) (hq : q.length ≤ 1000000) (hd : ∀ x, x ∈ q → x.d.length ≤ 1000000) : PF Try.prog 27 [.agg c.cells, .view (unRows q)] (fun r => r = .tuple [.view (unRows (takU c q)), .agg (tak1 c q).cells, .int .i64 (takE c q)]) := by
  cases h : qok c q with
  | false =>
    have e := pf27_bad c q hq h
    simpa [takU, tak1, takE, h] using e
  | true =>
    cases q with
    | nil => simpa [takU, tak1, takE, h] using pf27_nil c h
    | cons u q => simpa [takU, tak1, takE, h] using pf27_ok c u q hq hd h
end Go.Proofs.Ytclldbeefbbdlaa
open Go Go.Lg
set_option linter.unusedSimpArgs false
set_option linter.unusedVariables false
set_option maxHeartbeats 4000000
set_option maxRecDepth 20000
namespace Go.Proofs.Ytclldbeefbbdlaa
theorem pf38_bad (c : Cf) (q : List Un) (hq : q.length ≤ 1000000) (h : qok c q = false) : PF Try.prog 38 [.agg c.cells, .view (unRows q)] (fun r => r = .tuple [.view (unRows []), .agg uz.cells, .int .i64 8]) := by
  have e1 : (if qok c q = true then (0 : Int) else 8) = 8 := if_neg (by rw [h]; simp)
  refine pf_of_wf0 Try.func38 (c := _) rfl rfl (Nat.le_of_ble_eq_true rfl) (args_cl c q) ?_
  rw [show Try.f38.ntmps = 23 from rfl]
  have tE := And.intro (@upd_upd AV) <| And.intro (@upd_upd (Option Blk)) <| And.intro Cf.cells.eq_1 <| And.intro e1 <| And.intro ty3 <| And.intro ty5 <| And.intro ty23 <| And.intro ty55 <| And.intro ty56 <| And.intro ty58 <| Try.results38; repeat' first | ((with_reducible first | apply w_seq | apply w_region | apply wl_nil | apply wr_nil | apply wr_nilA | apply wr_nilE | apply go_normal | apply go_ret | apply go_exit | apply blk_normal | apply blk_ret | apply blk_here | apply w_block | apply w_skip | apply w_exit | apply w_label)) | ((with_reducible first | apply wz (tok Try.prog) | apply wr_z (tok Try.prog)); exact zZ; decide) | ((with_reducible first | apply w_alloc (tok Try.prog)); exact zT; decide) | ((with_reducible first | apply w_store (tok Try.prog)); exact zV; exact zV; exact zS) | ((with_reducible first | apply wcall' | apply wr_call); exact zV; exact zVs; exact zAs; (focus (with_unfolding_all first | exact pf41 c q (by omega))); decide) | ((with_reducible first | apply w_ift'); exact zV; exact zU) | ((with_reducible apply w_ret); (repeat (with_reducible first | apply go_ret | apply blk_ret)); (with_reducible first | apply donef_ret (tok Try.prog) | apply doneA_ret (tok Try.prog)); exact zT; exact zD) | fail
  all_goals try clear tE
  · exact FzL.tuple (ys := [.view [], .agg uz.cells, .int .i64 8]) (.cons .nothing (.cons (fz_uz _) (.cons (.pur (.int _ _)) .nil)))
  · exact tk_pur [] uz 8
  · rfl
theorem pf38_nil (c : Cf) (h : qok c [] = true) : PF Try.prog 38 [.agg c.cells, .view (unRows [])] (fun r => r = .tuple [.view (unRows []), .agg uz.cells, .int .i64 6]) := by
  have e1 : (if qok c [] = true then (0 : Int) else 8) = 0 := if_pos h
  refine pf_of_wf0 Try.func38 (c := _) rfl rfl (Nat.le_of_ble_eq_true rfl) (args_cl c []) ?_
  rw [show Try.f38.ntmps = 23 from rfl]
  have tE := And.intro (@upd_upd AV) <| And.intro (@upd_upd (Option Blk)) <| And.intro Cf.cells.eq_1 <| And.intro e1 <| And.intro ty3 <| And.intro ty5 <| And.intro ty23 <| And.intro ty55 <| And.intro ty56 <| And.intro ty58 <| Try.results38; repeat' first | ((with_reducible first | apply w_seq | apply w_region | apply wl_nil | apply wr_nil | apply wr_nilA | apply wr_nilE | apply go_normal | apply go_ret | apply go_exit | apply blk_normal | apply blk_ret | apply blk_here | apply w_block | apply w_skip | apply w_exit | apply w_label)) | ((with_reducible first | apply wz (tok Try.prog) | apply wr_z (tok Try.prog)); exact zZ; decide) | ((with_reducible first | apply w_alloc (tok Try.prog)); exact zT; decide) | ((with_reducible first | apply w_store (tok Try.prog)); exact zV; exact zV; exact zS) | ((with_reducible first | apply wcall' | apply wr_call); exact zV; exact zVs; exact zAs; (focus (with_unfolding_all first | exact pf41 c [] (by simp))); decide) | ((with_reducible first | apply w_ift'); exact zV; exact zU) | ((with_reducible first | apply w_iff'); exact zV; exact zU) | ((with_reducible apply w_ret); (repeat (with_reducible first | apply go_ret | apply blk_ret)); (with_reducible first | apply donef_ret (tok Try.prog) | apply doneA_ret (tok Try.prog)); exact zT; exact zD) | fail
  all_goals try clear tE
  · exact FzL.tuple (ys := [.view [], .agg uz.cells, .int .i64 6]) (.cons .nothing (.cons (fz_uz _) (.cons (.pur (.int _ _)) .nil)))
  · exact tk_pur [] uz 6
  · rfl
theorem pf38_ok (c : Cf) (u : Un) (q : List Un) (hq : (u :: q).length ≤ 1000000) (hd : ∀ x, x ∈ u :: q → x.d.length ≤ 1000000) (h : qok c (u :: q) = true) : PF Try.prog 38 [.agg c.cells, .view (unRows (u :: q))] (fun r => r = .tuple [.view (unRows q), .agg u.cells, .int .i64 0]) := by
  have e1 : (if qok c (u :: q) = true then (0 : Int) else 8) = 0 := if_pos h
  have t41 := pf41 c (u :: q) hq
  have hq' := hq
  rw [List.length_cons] at hq'
  have t36 : PF Try.prog 36 [.view (((unRows (u :: q)).take (bnd none (unRows (u :: q)).length)).drop (bnd (some 1) 0))] (fun r => r = .view (unRows q)) := by
    rw [show ((unRows (u :: q)).take (bnd none (unRows (u :: q)).length)).drop (bnd (some 1) 0) = unRows q by simp only [unRows, List.map_cons, bnd, Option.getD_none, Option.getD_some, List.take_length]; rfl]
    exact pf36 q (by omega) (fun x hx => hd x (by simp [hx]))
  have t65 := pf65 u (hd u (by simp))
  have hl0 : ((((unRows (u :: q)).length : Int)) = 0) = False := eq_false (by rw [unRows_len, List.length_cons]; omega)
  have hl : (unRows (u :: q)).length = q.length + 1 := by rw [unRows_len]; rfl
  have hlen : 1 ≤ (unRows (u :: q)).length := by rw [unRows_len, List.length_cons]; omega
  have hsz : ∀ r, r ∈ unRows (u :: q) → r.length = 4 := un_lens (u :: q)
  have hg : (unRows (u :: q))[0]? = some u.cells := rfl
  refine pf_of_wf0 Try.func38 (c := _) rfl rfl (Nat.le_of_ble_eq_true rfl) (args_cl c (u :: q)) ?_
  rw [show Try.f38.ntmps = 23 from rfl]
  have tE := And.intro (@upd_upd AV) <| And.intro (@upd_upd (Option Blk)) <| And.intro Cf.cells.eq_1 <| And.intro Un.cells.eq_1 <| And.intro e1 <| And.intro hl0 <| And.intro hg <| And.intro ty3 <| And.intro ty5 <| And.intro ty23 <| And.intro ty55 <| And.intro ty56 <| And.intro ty58 <| Try.results38; repeat' first | ((with_reducible first | apply w_seq | apply w_region | apply wl_nil | apply wr_nil | apply wr_nilA | apply wr_nilE | apply go_normal | apply go_ret | apply go_exit | apply blk_normal | apply blk_ret | apply blk_here | apply w_block | apply w_skip | apply w_exit | apply w_label)) | ((with_reducible apply w_live (lvAt [[0, 1], [1, 2, 5], [5], [1, 5], [5], [1, 5]])); (focus (simp only [lvAt_zero, lvAt_succ]; rfl)); exact zLv) | ((with_reducible first | apply wz (tok Try.prog) | apply wr_z (tok Try.prog)); exact zZ; decide) | ((with_reducible first | apply w_alloc (tok Try.prog)); exact zT; decide) | ((with_reducible first | apply wcall' | apply wr_call); exact zV; exact zVs; exact zAs; (focus (with_unfolding_all first | exact t41 | exact t36 | exact t65)); decide) | ((with_reducible first | apply m_p); exact zU; (focus (first | ((with_reducible first | apply p_slv (tok Try.prog)); exact zT; exact zU; exact zT; exact zV; exact zN; exact zN; (focus (first | exact zU | exact zB)); (focus (first | exact zU | exact zB)); (focus (first | exact zU | assumption))) | ((with_reducible first | apply p_slo (tok Try.prog)); exact zT; exact zU; exact zT; exact zV; exact zN; exact zN; (focus (first | exact zU | exact zB)); (focus (first | exact zU | exact zB)); (focus (first | exact zU | assumption))) | ((with_reducible first | apply p_nil (tok Try.prog) | apply p_nnil (tok Try.prog)); exact zT; exact zV; exact zU) | ((with_reducible first | apply p_bs0 (tok Try.prog)); exact zT; exact zU; exact zT) | ((with_reducible first | apply p_ap0 (tok Try.prog)); exact zT; exact zU; exact zT; exact zT; exact zU; exact zA; exact zV; (focus (first | exact Or.inl rfl | exact Or.inr rfl))) | ((with_reducible first | apply p_bytes (tok Try.prog)); exact zT; exact zU; exact zT; exact zU; exact zT; exact zU; exact zV))); decide) | ((with_reducible first | apply w_iff'); exact zV; exact zU) | ((with_reducible first | apply fm_nil | apply fm_cons)) | ((with_reducible apply m_next); exact zU) | ((with_reducible apply m_nil0); exact zU) | ((with_reducible first | apply m_v (tok Try.prog)); exact zU; exact zZ; decide) | ((with_reducible first | apply m_xA (tok Try.prog)); exact zU; exact zI; decide) | ((with_reducible first | apply m_chg0); exact zU; (focus ((with_reducible apply c_store (tok Try.prog)); exact zV; exact zV; exact zS))) | ((with_reducible first | apply m_call); exact zU; exact zV; exact zVs; exact zAs; (focus (with_unfolding_all first | exact t41 | exact t36 | exact t65)); decide) | ((with_reducible apply w_drawN (id := 5) [8] [([8], [3, 4, 5, 0, 1, 2, 6, 7, 8, 9])] mixed); (focus (decide +kernel))) | ((with_reducible apply w_ret); (repeat (with_reducible first | apply go_ret | apply blk_ret)); (with_reducible first | apply donef_ret (tok Try.prog) | apply doneA_ret (tok Try.prog)); exact zT; exact zD) | fail
  all_goals try clear tE
  · exact FzL.tuple (ys := [.view (unRows q), .agg u.cells, .int .i64 0]) (.cons (.pur (unRows_pur q)) (.cons (fz_uw u) (.cons (.pur (.int _ _)) .nil)))
  · exact tk_pur q u 0
  · rfl
theorem pf38 (c : Cf) (q : List Un) (hq : q.length ≤ 1000000) (hd : ∀ x, x ∈ q → x.d.length ≤ 1000000) : PF Try.prog 38 [.agg c.cells, .view (unRows q)] (fun r => r = .tuple [.view (unRows (takU c q)), .agg (tak1 c q).cells, .int .i64 (takE c q)]) := by
  cases h : qok c q with
  | false =>
    have e := pf38_bad c q hq h
    simpa [takU, tak1, takE, h] using e
  | true =>
    cases q with
    | nil => simpa [takU, tak1, takE, h] using pf38_nil c h
    | cons u q => simpa [takU, tak1, takE, h] using pf38_ok c u q hq hd h
end Go.Proofs.Ytclldbeefbbdlaa
open Go Go.Lg
set_option linter.unusedSimpArgs false
set_option linter.unusedVariables false
set_option maxHeartbeats 4000000
set_option maxRecDepth 20000
namespace Go.Proofs.Ytclldbeefbbdlaa
theorem pf64 (l : List Un) : PF Try.prog 64 [.view (unRows l)] (fun r => r = .func (.func 94) [] [.vptr [.view (unRows l)]]) := by
  refine pf_of_w0 Try.func64 (c := _) rfl rfl (Nat.le_of_ble_eq_true rfl) (fun x hx => by rcases List.mem_singleton.1 hx with rfl; exact unRows_pur l) ?_
  rw [show Try.f64.ntmps = 4 from rfl]
  have hv := unRows_pur l
  have hp : Pur (.func (.func 94) [] [.vptr [.view (unRows l)]]) := by
    rw [pur_func]
    refine ⟨fun _ h => (nomatch h), fun x hx => ?_⟩
    rcases List.mem_singleton.1 hx with rfl
    rw [pur_vptr]
    intro x hx
    rcases List.mem_singleton.1 hx with rfl
    exact hv
  have tE := And.intro (@upd_upd AV) <| And.intro (@upd_upd (Option Blk)) <| And.intro Cf.cells.eq_1 <| And.intro ty3 <| And.intro ty5 <| And.intro ty55 <| And.intro ty56 <| And.intro ty58 <| Try.results64; repeat' first | ((with_reducible first | apply w_seq | apply w_region | apply wl_nil | apply wr_nil | apply wr_nilA | apply wr_nilE | apply go_normal | apply go_ret | apply go_exit | apply blk_normal | apply blk_ret | apply blk_here | apply w_block | apply w_skip | apply w_exit | apply w_label)) | ((with_reducible first | apply wz (tok Try.prog) | apply wr_z (tok Try.prog)); exact zZ; decide) | ((with_reducible apply w_ret); (repeat (with_reducible first | apply go_ret | apply blk_ret)); (with_reducible apply done_ret (tok Try.prog)); exact zT; exact zD; exact zX) | fail
  all_goals try clear tE
  rfl
theorem ac94 (l : List Un) (hl : l.length ≤ 1000000) (id k : Nat) (H0 : Heap) (J S : Nat → Heap → Nat → Prop)
    (hround : ∀ i u H n, l[i]? = some u → J (i + 1) H n → YC Try.prog id [.int .i64 i, .agg u.cells] H n (fun b H' n' => (b = true ∧ J i H' n') ∨ (b = false ∧ S i H' n')))
    (h0 : J l.length H0 k) : AC Try.prog 94 [.yieldf id, .vptr [.view (unRows l)]] H0 k (fun r H n => r = .ret (.tuple []) ∧ (J 0 H n ∨ ∃ i, S i H n)) := by
  have hlr : (unRows l).length = l.length := unRows_len l
  have e1 : IntKind.i64.wrap ((l.length : Int) - 1) = (l.length : Int) - 1 := wrap64 (by omega) (by omega)
  refine ac_of_wd Try.func94 (c := _) rfl (Nat.le_of_ble_eq_true rfl) ?_
  rw [show Try.f94.ntmps = 19 from rfl]
  have tE := And.intro (@upd_upd AV) <| And.intro (@upd_upd (Option Blk)) <| And.intro hlr <| And.intro e1 <| And.intro ty3 <| And.intro ty4 <| And.intro ty5 <| And.intro ty55 <| And.intro ty56 <| And.intro ty58 <| Try.results94; repeat' first | ((with_reducible first | apply w_seq | apply w_region | apply wl_nil | apply wr_nil | apply wr_nilA | apply wr_nilE | apply go_normal | apply go_ret | apply go_exit | apply blk_normal | apply blk_ret | apply blk_here | apply w_block | apply w_skip | apply w_exit | apply w_label)) | ((with_reducible first | apply wz (tok Try.prog) | apply wr_z (tok Try.prog)); exact zZ; decide) | fail
  all_goals try clear tE
  refine w_loop (fun kk σ => kk ≤ l.length ∧ J kk σ.h σ.n ∧ σ.tm 0 = .yieldf id ∧ σ.tm 1 = .vptr [.view (unRows l)] ∧ σ.tm 3 = .int .i64 ((kk : Int) - 1) ∧ σ.df = []) l.length ⟨Nat.le_refl _, h0, rfl, rfl, rfl, rfl⟩ ?_
  rintro kk ⟨tm, H, nn, df⟩ ⟨hk, hJ, t0, t1, t3, rfl⟩
  simp only at t0 t1 t3 hJ
  cases kk with
  | zero =>
    have t3 : tm 3 = .int .i64 (-1) := t3
    have g1 : ((-1 : Int) ≥ 0) = False := eq_false (by decide)
    have tE := And.intro (@upd_upd AV) <| And.intro (@upd_upd (Option Blk)) <| And.intro t0 <| And.intro t1 <| And.intro t3 <| And.intro g1 <| And.intro ty3 <| And.intro ty4 <| And.intro ty5 <| And.intro ty55 <| And.intro ty56 <| And.intro ty58 <| Try.results94; repeat' first | ((with_reducible first | apply w_seq | apply w_region | apply wl_nil | apply wr_nil | apply wr_nilA | apply wr_nilE | apply go_normal | apply go_ret | apply go_exit | apply blk_normal | apply blk_ret | apply blk_here | apply w_block | apply w_skip | apply w_exit | apply w_label)) | ((with_reducible first | apply wz (tok Try.prog) | apply wr_z (tok Try.prog)); exact zZ; decide) | ((with_reducible first | apply w_iff'); exact zV; exact zU) | fail
    all_goals try clear tE
    exact ⟨trivial, .tuple [], resv_of (xs := []) (tok Try.prog) rfl, rfl, .inl hJ⟩
  | succ i =>
    have t3 : tm 3 = .int .i64 (i : Int) := by rw [t3]; congr 1; omega
    obtain ⟨u, hu⟩ : ∃ u, l[i]? = some u := ⟨l[i]'(by omega), List.getElem?_eq_getElem _⟩
    have hg : (unRows l)[i]? = some u.cells := by simp [unRows, hu]
    have g1 : ((i : Int) ≥ 0) = True := eq_true (by omega)
    have e2 : IntKind.i64.wrap ((i : Int) - 1) = (i : Int) - 1 := wrap64 (by omega) (by omega)
    have hy := hround i u H nn hu hJ
    have ht4 : u.cells.take 4 = u.cells := rfl
    have tE := And.intro (@upd_upd AV) <| And.intro (@upd_upd (Option Blk)) <| And.intro t0 <| And.intro t1 <| And.intro t3 <| And.intro g1 <| And.intro hg <| And.intro hlr <| And.intro e2 <| And.intro ht4 <| And.intro ty3 <| And.intro ty4 <| And.intro ty5 <| And.intro ty55 <| And.intro ty56 <| And.intro ty58 <| Try.results94; repeat' first | ((with_reducible first | apply w_seq | apply w_region | apply wl_nil | apply wr_nil | apply wr_nilA | apply wr_nilE | apply go_normal | apply go_ret | apply go_exit | apply blk_normal | apply blk_ret | apply blk_here | apply w_block | apply w_skip | apply w_exit | apply w_label)) | ((with_reducible first | apply wz (tok Try.prog) | apply wr_z (tok Try.prog)); exact zZ; decide) | ((with_reducible first | apply w_ift'); exact zV; exact zU) | fail
    all_goals try clear tE
    refine wl_yield (by simp only [evo, t0, sp_cons, sp_nil, upd_b, Nat.reduceBEq, cond_true, cond_false, args0_zero, args0_succ, args0_nil]; rfl) (by simp only [evs, evo, sp_cons, sp_nil, upd_b, Nat.reduceBEq, cond_true, cond_false, args0_zero, args0_succ, args0_nil]; rfl) (by exact hy) (by decide) ?_
    rintro b H' n' (⟨rfl, hJ'⟩ | ⟨rfl, hS⟩)
    · have tE := And.intro (@upd_upd AV) <| And.intro (@upd_upd (Option Blk)) <| And.intro t0 <| And.intro t1 <| And.intro t3 <| And.intro g1 <| And.intro hg <| And.intro hlr <| And.intro e2 <| And.intro ht4 <| And.intro ty3 <| And.intro ty4 <| And.intro ty5 <| And.intro ty55 <| And.intro ty56 <| And.intro ty58 <| Try.results94; repeat' first | ((with_reducible first | apply w_seq | apply w_region | apply wl_nil | apply wr_nil | apply wr_nilA | apply wr_nilE | apply go_normal | apply go_ret | apply go_exit | apply blk_normal | apply blk_ret | apply blk_here | apply w_block | apply w_skip | apply w_exit | apply w_label)) | ((with_reducible first | apply wz (tok Try.prog) | apply wr_z (tok Try.prog)); exact zZ; decide) | ((with_reducible first | apply w_iff'); exact zV; exact zU) | fail
      all_goals try clear tE
      exact ⟨i, by omega, by omega, hJ', by simp only [sp_cons, sp_nil, upd_b, Nat.reduceBEq, cond_true, cond_false, args0_zero, args0_succ, args0_nil, t0], by simp only [sp_cons, sp_nil, upd_b, Nat.reduceBEq, cond_true, cond_false, args0_zero, args0_succ, args0_nil, t1], by simp only [sp_cons, sp_nil, upd_b, Nat.reduceBEq, cond_true, cond_false, args0_zero, args0_succ, args0_nil, t3], rfl⟩
    · have tE := And.intro (@upd_upd AV) <| And.intro (@upd_upd (Option Blk)) <| And.intro t0 <| And.intro t1 <| And.intro t3 <| And.intro g1 <| And.intro hg <| And.intro hlr <| And.intro e2 <| And.intro ht4 <| And.intro ty3 <| And.intro ty4 <| And.intro ty5 <| And.intro ty55 <| And.intro ty56 <| And.intro ty58 <| Try.results94; repeat' first | ((with_reducible first | apply w_seq | apply w_region | apply wl_nil | apply wr_nil | apply wr_nilA | apply wr_nilE | apply go_normal | apply go_ret | apply go_exit | apply blk_normal | apply blk_ret | apply blk_here | apply w_block | apply w_skip | apply w_exit | apply w_label)) | ((with_reducible first | apply wz (tok Try.prog) | apply wr_z (tok Try.prog)); exact zZ; decide) | ((with_reducible first | apply w_ift'); exact zV; exact zU) | fail
      all_goals try clear tE
      refine w_ret ?_
      exact ⟨trivial, .tuple [], resv_of (xs := []) (tok Try.prog) rfl, rfl, .inr ⟨_, hS⟩⟩
end Go.Proofs.Ytclldbeefbbdlaa
open Go Go.Lg
set_option linter.unusedSimpArgs false
set_option linter.unusedVariables false
set_option maxHeartbeats 4000000
set_option maxRecDepth 20000
namespace Go.Proofs.Ytclldbeefbbdlaa
/-- One more than the place of the last unit of page d; 0 where there is none. -/
def lastP (d : Int) : List Un → Nat
  | [] => 0
  | u :: us => if lastP d us ≠ 0 then lastP d us + 1 else if u.p = d then 1 else 0
theorem lastP_app (d : Int) : ∀ (a b : List Un), lastP d (a ++ b) = if lastP d b ≠ 0 then a.length + lastP d b else lastP d a
  | [], b => by
    show lastP d b = _
    by_cases h : lastP d b = 0
    · simp [h, lastP]
    · simp [h]
  | u :: a, b => by
    have ih := lastP_app d a b
    show (if lastP d (a ++ b) ≠ 0 then lastP d (a ++ b) + 1 else if u.p = d then 1 else 0) = _
    rw [ih]
    by_cases h : lastP d b = 0
    · simp [h, lastP]
    · simp only [h, ne_eq, not_false_eq_true, if_true, List.length_cons]
      rw [if_pos (by omega)]; omega
theorem lastP_snoc (d : Int) (a : List Un) (u : Un) : lastP d (a ++ [u]) = if u.p = d then a.length + 1 else lastP d a := by
  rw [lastP_app]
  by_cases h : u.p = d <;> simp [lastP, h]
theorem lastP_none (d : Int) : ∀ (l : List Un), (∀ (i : Nat) (u : Un), l[i]? = some u → u.p ≠ d) → lastP d l = 0
  | [], _ => rfl
  | u :: us, h => by
    have h0 : u.p ≠ d := h 0 u rfl
    have ih := lastP_none d us (fun i v hv => h (i + 1) v hv)
    simp [lastP, ih, h0]
theorem lastP_at (d : Int) (l : List Un) (i : Nat) (u : Un) (hu : l[i]? = some u) (hp : u.p = d) (h : ∀ (j : Nat) (v : Un), l[j]? = some v → i < j → v.p ≠ d) : lastP d l = i + 1 := by
  have hlt : i < l.length := by
    rcases Nat.lt_or_ge i l.length with h | h
    · exact h
    · rw [List.getElem?_eq_none h] at hu; cases hu
  have e : l = l.take (i + 1) ++ l.drop (i + 1) := (List.take_append_drop _ _).symm
  have hd : lastP d (l.drop (i + 1)) = 0 := lastP_none d _ (fun j v hv => h (i + 1 + j) v (by rw [List.getElem?_drop] at hv; exact hv) (by omega))
  rw [e, lastP_app, if_neg (by simp [hd]), List.take_add_one, hu]
  show lastP d (l.take i ++ [u]) = _
  rw [lastP_snoc, if_pos hp, List.length_take, Nat.min_eq_left (by omega)]
theorem lastP_le (d : Int) : ∀ l : List Un, lastP d l ≤ l.length
  | [] => Nat.le_refl _
  | u :: us => by
    have := lastP_le d us
    simp only [lastP, List.length_cons]
    split
    · omega
    · split <;> omega
def ahI (c : Cf) (q : List Un) (d : Int) : Int := if qok c q = true then (lastP d q : Int) else 0
def ahE (c : Cf) (q : List Un) (d : Int) : Int := if qok c q = true then (if lastP d q = 0 then 6 else 0) else 8
theorem args_cli (c : Cf) (l : List Un) (d : Int) : ∀ x, x ∈ [AV.agg c.cells, AV.view (unRows l), AV.int .i64 d] → Pur x := by
  intro x hx
  simp only [List.mem_cons, List.not_mem_nil, or_false] at hx
  rcases hx with rfl | rfl | rfl
  · exact .agg (cells_pur c)
  · exact unRows_pur l
  · exact .int _ _
theorem pf39 (c : Cf) (q : List Un) (d : Int) (hq : q.length ≤ 1000000) : PF Try.prog 39 [.agg c.cells, .view (unRows q), .int .i64 d] (fun r => r = .tuple [.int .i64 (ahI c q d), .int .i64 (ahE c q d)]) := by
  refine pf_of_w0 Try.func39 (c := _) rfl rfl (Nat.le_of_ble_eq_true rfl) (args_cli c q d) ?_
  rw [show Try.f39.ntmps = 32 from rfl]
  cases h : qok c q with
  | false =>
    have e1 : (if qok c q = true then (0 : Int) else 8) = 8 := if_neg (by rw [h]; simp)
    have tE := And.intro (@upd_upd AV) <| And.intro (@upd_upd (Option Blk)) <| And.intro Cf.cells.eq_1 <| And.intro e1 <| And.intro ty3 <| And.intro ty5 <| And.intro ty23 <| And.intro ty55 <| And.intro ty56 <| And.intro ty58 <| Try.results39; repeat' first | ((with_reducible first | apply w_seq | apply w_region | apply wl_nil | apply wr_nil | apply wr_nilA | apply wr_nilE | apply go_normal | apply go_ret | apply go_exit | apply blk_normal | apply blk_ret | apply blk_here | apply w_block | apply w_skip | apply w_exit | apply w_label)) | ((with_reducible first | apply wz (tok Try.prog) | apply wr_z (tok Try.prog)); exact zZ; decide) | ((with_reducible first | apply wcall' | apply wr_call); exact zV; exact zVs; exact zAs; (focus (with_unfolding_all first | exact pf41 c q (by omega))); decide) | ((with_reducible first | apply w_ift'); exact zV; exact zU) | ((with_reducible apply w_ret); (repeat (with_reducible first | apply go_ret | apply blk_ret)); (with_reducible apply done_ret (tok Try.prog)); exact zT; exact zD; exact zX) | fail
    all_goals try clear tE
    simp [tup, ahI, ahE, h]
  | true =>
    have e1 : (if qok c q = true then (0 : Int) else 8) = 0 := if_pos h
    have tE := And.intro (@upd_upd AV) <| And.intro (@upd_upd (Option Blk)) <| And.intro Cf.cells.eq_1 <| And.intro e1 <| And.intro ty3 <| And.intro ty5 <| And.intro ty23 <| And.intro ty55 <| And.intro ty56 <| And.intro ty58 <| Try.results39; repeat' first | ((with_reducible first | apply w_seq | apply w_region | apply wl_nil | apply wr_nil | apply wr_nilA | apply wr_nilE | apply go_normal | apply go_ret | apply go_exit | apply blk_normal | apply blk_ret | apply blk_here | apply w_block | apply w_skip | apply w_exit | apply w_label)) | ((with_reducible first | apply wz (tok Try.prog) | apply wr_z (tok Try.prog)); exact zZ; decide) | ((with_reducible first | apply wcall' | apply wr_call); exact zV; exact zVs; exact zAs; (focus (with_unfolding_all first | exact pf41 c q (by omega))); decide) | ((with_reducible first | apply w_iff'); exact zV; exact zU) | fail
    all_goals try clear tE
    refine w_loopS (S := Nat) (fun i => [(1, .view (unRows q)), (2, .int .i64 d), (8, .int .i64 (lastP d (q.take i) : Nat)), (9, .int .i64 (i : Int))]) (fun _ => []) [] (fun i => i ≤ q.length) (fun i => q.length - i) 0 ?_ (Nat.zero_le _) ?_
    · (have tu0 : Pur _ := unRows_pur q; have tE := And.intro (@upd_upd AV) <| @upd_upd (Option Blk); exact kcanS [])
    · rintro i hi
      simp only [St.ofS, List.length_nil]
      by_cases e : i < q.length
      · obtain ⟨x, hx⟩ : ∃ x, q[i]? = some x := ⟨q[i], List.getElem?_eq_getElem e⟩
        have hi1 : ((i : Int) < (q.length : Int)) = True := by simp; omega
        have h0 : (0 ≤ (i : Int)) = True := by simp
        have hr := un_row hx
        have hw : IntKind.i64.wrap ((i : Int) + 1) = ((i + 1 : Nat) : Int) := by rw [wrap64 (by omega) (by omega)]; rfl
        have hsn : q.take (i + 1) = q.take i ++ [x] := by rw [List.take_add_one, hx]; rfl
        have hln : (q.take i).length = i := by rw [List.length_take]; omega
        by_cases hxp : x.p = d
        · have g1 : (x.p == d) = true := by simp [hxp]
          have g2 : (x.p = d) = True := eq_true hxp
          have tE := And.intro (@upd_upd AV) <| And.intro (@upd_upd (Option Blk)) <| And.intro Un.cells.eq_1 <| And.intro hi1 <| And.intro h0 <| And.intro hr <| And.intro hw <| And.intro g1 <| And.intro g2 <| And.intro unRows_len <| And.intro ty3 <| And.intro ty5 <| And.intro ty23 <| And.intro ty55 <| And.intro ty56 <| And.intro ty58 <| Try.results39; repeat' first | ((with_reducible first | apply w_seq | apply w_region | apply wl_nil | apply wr_nil | apply wr_nilA | apply wr_nilE | apply go_normal | apply go_ret | apply go_exit | apply blk_normal | apply blk_ret | apply blk_here | apply w_block | apply w_skip | apply w_exit | apply w_label)) | ((with_reducible first | apply wz (tok Try.prog) | apply wr_z (tok Try.prog)); exact zZ; decide) | ((with_reducible first | apply w_ift'); exact zV; exact zU) | fail
          all_goals try clear tE
          refine ⟨i + 1, by omega, by omega, ?_⟩
          rw [hsn, lastP_snoc, if_pos hxp, hln]
          (have tu0 : Pur _ := unRows_pur q; have tE := And.intro (@upd_upd AV) <| @upd_upd (Option Blk); exact kcanS [])
        · have g1 : (x.p == d) = false := by simp [hxp]
          have g2 : (x.p = d) = False := eq_false hxp
          have tE := And.intro (@upd_upd AV) <| And.intro (@upd_upd (Option Blk)) <| And.intro Un.cells.eq_1 <| And.intro hi1 <| And.intro h0 <| And.intro hr <| And.intro hw <| And.intro g1 <| And.intro g2 <| And.intro unRows_len <| And.intro ty3 <| And.intro ty5 <| And.intro ty23 <| And.intro ty55 <| And.intro ty56 <| And.intro ty58 <| Try.results39; repeat' first | ((with_reducible first | apply w_seq | apply w_region | apply wl_nil | apply wr_nil | apply wr_nilA | apply wr_nilE | apply go_normal | apply go_ret | apply go_exit | apply blk_normal | apply blk_ret | apply blk_here | apply w_block | apply w_skip | apply w_exit | apply w_label)) | ((with_reducible first | apply wz (tok Try.prog) | apply wr_z (tok Try.prog)); exact zZ; decide) | ((with_reducible first | apply w_ift'); exact zV; exact zU) | ((with_reducible first | apply w_iff'); exact zV; exact zU) | fail
          all_goals try clear tE
          refine ⟨i + 1, by omega, by omega, ?_⟩
          rw [hsn, lastP_snoc, if_neg hxp]
          (have tu0 : Pur _ := unRows_pur q; have tE := And.intro (@upd_upd AV) <| @upd_upd (Option Blk); exact kcanS [])
      · have hi1 : ((i : Int) < (q.length : Int)) = False := by simp; omega
        have e2 : i = q.length := by omega
        subst e2
        rw [List.take_length]
        by_cases hz : lastP d q = 0
        · have g1 : (((lastP d q : Nat) : Int) == 0) = true := by simp [hz]
          have g2 : (((lastP d q : Nat) : Int) = 0) = True := eq_true (by omega)
          have tE := And.intro (@upd_upd AV) <| And.intro (@upd_upd (Option Blk)) <| And.intro hi1 <| And.intro g1 <| And.intro g2 <| And.intro unRows_len <| And.intro ty3 <| And.intro ty5 <| And.intro ty23 <| And.intro ty55 <| And.intro ty56 <| And.intro ty58 <| Try.results39; repeat' first | ((with_reducible first | apply w_seq | apply w_region | apply wl_nil | apply wr_nil | apply wr_nilA | apply wr_nilE | apply go_normal | apply go_ret | apply go_exit | apply blk_normal | apply blk_ret | apply blk_here | apply w_block | apply w_skip | apply w_exit | apply w_label)) | ((with_reducible first | apply wz (tok Try.prog) | apply wr_z (tok Try.prog)); exact zZ; decide) | ((with_reducible first | apply w_ift'); exact zV; exact zU) | ((with_reducible first | apply w_iff'); exact zV; exact zU) | ((with_reducible apply w_ret); (repeat (with_reducible first | apply go_ret | apply blk_ret)); (with_reducible apply done_ret (tok Try.prog)); exact zT; exact zD; exact zX) | fail
          all_goals try clear tE
          simp [tup, ahI, ahE, h, hz]
        · have g1 : (((lastP d q : Nat) : Int) == 0) = false := by simp [hz]
          have g2 : (((lastP d q : Nat) : Int) = 0) = False := eq_false (by omega)
          have tE := And.intro (@upd_upd AV) <| And.intro (@upd_upd (Option Blk)) <| And.intro hi1 <| And.intro g1 <| And.intro g2 <| And.intro unRows_len <| And.intro ty3 <| And.intro ty5 <| And.intro ty23 <| And.intro ty55 <| And.intro ty56 <| And.intro ty58 <| Try.results39; repeat' first | ((with_reducible first | apply w_seq | apply w_region | apply wl_nil | apply wr_nil | apply wr_nilA | apply wr_nilE | apply go_normal | apply go_ret | apply go_exit | apply blk_normal | apply blk_ret | apply blk_here | apply w_block | apply w_skip | apply w_exit | apply w_label)) | ((with_reducible first | apply wz (tok Try.prog) | apply wr_z (tok Try.prog)); exact zZ; decide) | ((with_reducible first | apply w_iff'); exact zV; exact zU) | ((with_reducible apply w_ret); (repeat (with_reducible first | apply go_ret | apply blk_ret)); (with_reducible apply done_ret (tok Try.prog)); exact zT; exact zD; exact zX) | fail
          all_goals try clear tE
          simp [tup, ahI, ahE, h, hz]
end Go.Proofs.Ytclldbeefbbdlaa
