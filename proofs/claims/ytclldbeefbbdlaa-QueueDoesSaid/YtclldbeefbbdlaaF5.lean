/- QueueDoes: the law computes true. -/
import Derived.Test.YtclldbeefbbdlaaF4
open Go Go.Lg
set_option linter.unusedSimpArgs false
set_option linter.unusedVariables false
set_option maxHeartbeats 8000000
set_option maxRecDepth 20000
namespace Go.Proofs.Ytclldbeefbbdlaa
theorem great_few {l : List Un} (h : great l = false) : l.length ≤ 40 ∧ ∀ u, u ∈ l → u.d.length ≤ 100 := by
  simp only [great, Bool.or_eq_false_iff, decide_eq_false_iff_not, List.any_eq_false, decide_eq_true_eq] at h
  have h1 : l.length ≤ 40 := by omega
  refine ⟨h1, fun u hu => ?_⟩
  have := h.1 u (by rw [List.take_of_length_le h1]; exact hu)
  omega
theorem args_q (c : Cf) (q m : List Un) (p : Int) : ∀ x, x ∈ [AV.agg c.cells, AV.view (unRows q), AV.view (unRows m), .int .i64 p] → Pur x := by
  intro x hx
  simp only [List.mem_cons, List.not_mem_nil, or_false] at hx
  rcases hx with rfl | rfl | rfl | rfl
  · exact .agg (cells_pur c)
  · exact unRows_pur q
  · exact unRows_pur m
  · exact .int _ _
theorem pf10_great (c : Cf) (q m : List Un) (p : Int) (h : great q = true ∨ great m = true) : PF Try.prog 10 [.agg c.cells, .view (unRows q), .view (unRows m), .int .i64 p] (fun r => r = .bool true) := by
  refine pf_of_w0 Try.func10 (c := _) rfl rfl (Nat.le_of_ble_eq_true rfl) (args_q c q m p) ?_
  rw [show Try.f10.ntmps = 160 from rfl]
  cases hq : great q with
  | true =>
    have tE := And.intro (@upd_upd AV) <| And.intro (@upd_upd (Option Blk)) <| And.intro hq <| And.intro ty3 <| And.intro ty4 <| And.intro ty5 <| And.intro ty23 <| And.intro ty56 <| And.intro ty58 <| Try.results10; repeat' first | ((with_reducible first | apply w_seq | apply w_region | apply wl_nil | apply wr_nil | apply wr_nilA | apply wr_nilE | apply go_normal | apply go_ret | apply go_exit | apply blk_normal | apply blk_ret | apply blk_here | apply w_block | apply w_skip | apply w_exit | apply w_label)) | ((with_reducible first | apply wz (tok Try.prog) | apply wr_z (tok Try.prog)); exact zZ; decide) | ((with_reducible first | apply wskip' | apply wr_skip); exact zU; exact zL; exact zU; decide) | ((with_reducible first | apply wcall' | apply wr_call); exact zV; exact zVs; exact zAs; (focus (with_unfolding_all first | exact pf34 q | exact pf34 m)); decide) | ((with_reducible first | apply w_ift'); exact zV; exact zU) | ((with_reducible apply w_ret); (repeat (with_reducible first | apply go_ret | apply blk_ret)); (with_reducible apply done_ret (tok Try.prog)); exact zT; exact zD; exact zX) | fail
    all_goals try clear tE
    rfl
  | false =>
    have hm : great m = true := by rcases h with h | h <;> simp_all
    have tE := And.intro (@upd_upd AV) <| And.intro (@upd_upd (Option Blk)) <| And.intro hq <| And.intro hm <| And.intro ty3 <| And.intro ty4 <| And.intro ty5 <| And.intro ty23 <| And.intro ty56 <| And.intro ty58 <| Try.results10; repeat' first | ((with_reducible first | apply w_seq | apply w_region | apply wl_nil | apply wr_nil | apply wr_nilA | apply wr_nilE | apply go_normal | apply go_ret | apply go_exit | apply blk_normal | apply blk_ret | apply blk_here | apply w_block | apply w_skip | apply w_exit | apply w_label)) | ((with_reducible first | apply wz (tok Try.prog) | apply wr_z (tok Try.prog)); exact zZ; decide) | ((with_reducible first | apply wzg (tok Try.prog) | apply wr_zg (tok Try.prog)); exact zU; exact zL; exact zU; exact zZ; decide) | ((with_reducible first | apply wcall' | apply wr_call); exact zV; exact zVs; exact zAs; (focus (with_unfolding_all first | exact pf34 q | exact pf34 m)); decide) | ((with_reducible first | apply wcallg' | apply wr_callg); exact zU; exact zL; exact zU; exact zV; exact zVs; exact zAs; (focus (with_unfolding_all first | exact pf34 q | exact pf34 m)); decide) | ((with_reducible first | apply w_ift'); exact zV; exact zU) | ((with_reducible apply w_ret); (repeat (with_reducible first | apply go_ret | apply blk_ret)); (with_reducible apply done_ret (tok Try.prog)); exact zT; exact zD; exact zX) | fail
    all_goals try clear tE
    rfl
def SmallU (l : List Un) : Prop := l.length ≤ 1000000 ∧ ∀ u, u ∈ l → u.d.length ≤ 1000000
theorem look40 {H : Heap} {n : Nat} {S : Nat → Prop} {a : AV} {l : List Un} (hs : SmallU l) (ho : Own H S a (.view (unRows l))) : AC Try.prog 40 [a, .view (unRows l)] H n (fun r h' n' => r = .ret (.bool true) ∧ h' = H ∧ n' = n) := by
  have h := pf40 l l hs.1
  rw [decide_eq_true rfl] at h
  exact PF.look h (.bool _) _ _ (.cons ho.fz (.cons (.pur (unRows_pur l)) .nil))
theorem own_un {H : Heap} {S : Nat → Prop} {x : AV} {u : Un} (h : Own H S x (.agg u.cells)) : ∃ a, x = .agg [.int .u8 u.k, .int .i64 u.p, .int .i64 u.f, a] ∧ Own H S a (.view (byteRows u.d)) := by
  obtain ⟨xs, rfl, h1⟩ := h.agg_inv
  obtain ⟨x1, r, rfl, o1, h2⟩ := h1.cons_inv
  obtain ⟨x2, r, rfl, o2, h3⟩ := h2.cons_inv
  obtain ⟨x3, r, rfl, o3, h4⟩ := h3.cons_inv
  obtain ⟨x4, r, rfl, o4, h5⟩ := h4.cons_inv
  obtain rfl := h5.nil_inv
  rw [o1.int_inv, o2.int_inv, o3.int_inv]
  exact ⟨x4, rfl, o4⟩
theorem pf10_main (c : Cf) (q m : List Un) (p : Int) (hgq : great q = false) (hgm : great m = false) : PF Try.prog 10 [.agg c.cells, .view (unRows q), .view (unRows m), .int .i64 p] (fun r => r = .bool true) := by
  obtain ⟨q1, q2⟩ := great_few hgq
  obtain ⟨m1, m2⟩ := great_few hgm
  have hq : SmallU q := ⟨by omega, fun u hu => Nat.le_trans (q2 u hu) (by decide)⟩
  have hm : SmallU m := ⟨by omega, fun u hu => Nat.le_trans (m2 u hu) (by decide)⟩
  have h36q := pf36 q hq.1 hq.2
  have h36m := pf36 m hm.1 hm.2
  have h29 := nf29 c q m (by omega) (by omega) hq.2 hm.2
  have h37 := pf37 c q m (by omega) (by omega) hq.2 hm.2
  have h27 := nf27 c q hq.1 hq.2
  have h38 := pf38 c q hq.1 hq.2
  have h30 := pf30 c q p hq.1
  have h39 := pf39 c q p hq.1
  have h33 := pf33 c q hq.1
  have h41 := pf41 c q hq.1
  have h42m := pf42 q m hq.1 hq.2
  have h40m := pf40 q m hq.1
  have h42 := pf42 q q hq.1 hq.2
  have h40 := pf40 q q hq.1
  have h40mm := pf40 m m hm.1
  have h43 := nf43 q hq.1 hq.2
  have h35 := pf35 (tak1 c q) (tak1 c q)
  rw [decide_eq_true rfl] at h42 h40 h40mm h35
  have hP : SmallU (putU c q m) := by
    unfold putU
    split
    · exact ⟨by rw [List.length_append]; omega, fun u hu => by
        rcases List.mem_append.1 hu with h | h
        · exact hq.2 u h
        · exact hm.2 u h⟩
    · exact ⟨by simp, fun u hu => by simp at hu⟩
  have hT : SmallU (takU c q) := by
    unfold takU
    split
    · exact ⟨by rw [List.length_tail]; omega, fun u hu => hq.2 u (List.mem_of_mem_tail hu)⟩
    · exact ⟨by simp, fun u hu => by simp at hu⟩
  generalize putU c q m = P at h29 h37 hP
  generalize putE c q m = PE at h29 h37
  generalize takU c q = T at h27 h38 hT
  generalize tak1 c q = U at h27 h38 h35
  generalize takE c q = TE at h27 h38
  generalize ahI c q p = AI at h30 h39
  generalize ahE c q p = AE at h30 h39
  generalize (if qok c q = true then (0 : Int) else 8) = E at h33 h41
  generalize decide (q = m) = sm at h42m h40m
  refine pf_of_w0 Try.func10 (c := _) rfl rfl (Nat.le_of_ble_eq_true rfl) (args_q c q m p) ?_
  rw [show Try.f10.ntmps = 160 from rfl]
  have tE := And.intro (@upd_upd AV) <| And.intro (@upd_upd (Option Blk)) <| And.intro Cf.cells.eq_1 <| And.intro hgq <| And.intro hgm <| And.intro ty3 <| And.intro ty4 <| And.intro ty5 <| And.intro ty23 <| And.intro ty56 <| And.intro ty58 <| Try.results10; repeat' first | ((with_reducible first | apply w_seq | apply w_region | apply wl_nil | apply wr_nil | apply wr_nilA | apply wr_nilE | apply go_normal | apply go_ret | apply go_exit | apply blk_normal | apply blk_ret | apply blk_here | apply w_block | apply w_skip | apply w_exit | apply w_label)) | ((with_reducible first | apply wz (tok Try.prog) | apply wr_z (tok Try.prog)); exact zZ; decide) | ((with_reducible first | apply wzg (tok Try.prog) | apply wr_zg (tok Try.prog)); exact zU; exact zL; exact zU; exact zZ; decide) | ((with_reducible first | apply wcall' | apply wr_call); exact zV; exact zVs; exact zAs; (focus (with_unfolding_all first | exact pf34 q | exact pf34 m | exact h36q | exact h36m)); decide) | ((with_reducible first | apply wcallg' | apply wr_callg); exact zU; exact zL; exact zU; exact zV; exact zVs; exact zAs; (focus (with_unfolding_all first | exact pf34 q | exact pf34 m | exact h36q | exact h36m)); decide) | ((with_reducible first | apply w_iff'); exact zV; exact zU) | fail
  all_goals try clear tE
  (have tE := And.intro (@upd_upd AV) <| And.intro (@upd_upd (Option Blk)) <| Cf.cells.eq_1; (with_reducible apply wacall); exact zV; exact zVs; exact zAs; exact h29.cal; (focus (with_unfolding_all exact h29.ac _ _)); decide; clear tE)
  rintro r H1 k1 ⟨hn1, hold1, htop1, x, y, rfl, hown1, rfl⟩
  obtain ⟨xs, rfl, hx1⟩ := hown1.tuple_inv
  obtain ⟨x1, r1, rfl, o1, hx2⟩ := hx1.cons_inv
  obtain ⟨x2, r2, rfl, o2, hx3⟩ := hx2.cons_inv
  obtain rfl := hx3.nil_inv
  obtain rfl := o2.int_inv
  clear hx1 hx2 hx3 hown1
  have o1 : Own H1 (fun id => id < k1) x1 (.view (unRows P)) := o1.mv fun id b hid hb => ⟨lt_top htop1 hb, hb⟩
  have tE := And.intro (@upd_upd AV) <| And.intro (@upd_upd (Option Blk)) <| And.intro Cf.cells.eq_1 <| And.intro ty3 <| And.intro ty4 <| And.intro ty5 <| And.intro ty23 <| And.intro ty56 <| And.intro ty58 <| Try.results10; repeat' first | ((with_reducible first | apply w_seq | apply w_region | apply wl_nil | apply wr_nil | apply wr_nilA | apply wr_nilE | apply go_normal | apply go_ret | apply go_exit | apply blk_normal | apply blk_ret | apply blk_here | apply w_block | apply w_skip | apply w_exit | apply w_label)) | ((with_reducible first | apply wz (tok Try.prog) | apply wr_z (tok Try.prog)); exact zZ; decide) | ((with_reducible first | apply wcall' | apply wr_call); exact zV; exact zVs; exact zAs; (focus (with_unfolding_all first | exact h37)); decide) | fail
  all_goals try clear tE
  (have tE := And.intro (@upd_upd AV) <| And.intro (@upd_upd (Option Blk)) <| Cf.cells.eq_1; (with_reducible apply wacall); exact zV; exact zVs; exact zAs; exact h27.cal; (focus (with_unfolding_all exact h27.ac _ _)); decide; clear tE)
  rintro r H2 k2 ⟨hn2, hold2, htop2, x, y, rfl, hown2, rfl⟩
  obtain ⟨xs, rfl, hx1⟩ := hown2.tuple_inv
  obtain ⟨x2, r1, rfl, o2, hx2⟩ := hx1.cons_inv
  obtain ⟨xu, r2, rfl, ou, hx3⟩ := hx2.cons_inv
  obtain ⟨xe, r3, rfl, oe, hx4⟩ := hx3.cons_inv
  obtain rfl := hx4.nil_inv
  obtain rfl := oe.int_inv
  obtain ⟨au, rfl, oa⟩ := own_un ou
  clear hx1 hx2 hx3 hx4 hown2 ou
  have hn2 : k1 ≤ k2 := hn2
  have o2 : Own H2 (fun id => k1 ≤ id ∧ id < k2) x2 (.view (unRows T)) := o2.mv fun id b hid hb => ⟨⟨hid, lt_top htop2 hb⟩, hb⟩
  have oa : Own H2 (fun id => k1 ≤ id ∧ id < k2) au (.view (byteRows U.d)) := oa.mv fun id b hid hb => ⟨⟨hid, lt_top htop2 hb⟩, hb⟩
  have o1 : Own H2 (fun id => id < k1) x1 (.view (unRows P)) := o1.mv fun id b hid hb => ⟨hid, hold2 id b hb⟩
  clear hold1 hold2 htop1
  have z1 := (own_scal oa).1
  simp only [scalA] at z1
  obtain ⟨Hc, hHc⟩ : ∃ X, X = upd (upd H2 k2 (some (.cells [.int .u8 U.k, .int .i64 U.p, .int .i64 U.f, au] 58))) (k2 + 1) (some (.cells U.cells 58)) := ⟨_, rfl⟩
  have hHc' : upd (upd H2 k2 (some (.cells [.int .u8 U.k, .int .i64 U.p, .int .i64 U.f, au] 58))) (k2 + 1) (some (.cells [.int .u8 U.k, .int .i64 U.p, .int .i64 U.f, .view (byteRows U.d)] 58)) = Hc := hHc.symm
  have keep : ∀ id b, id < k2 → H2 id = some b → Hc id = some b := fun id b hid hb => by rw [hHc, upd_ne _ _ (by omega), upd_ne _ _ (by omega)]; exact hb
  have o1 : Own Hc (fun id => id < k1) x1 (.view (unRows P)) := o1.mv fun id b hid hb => ⟨hid, keep id b (by omega) hb⟩
  have o2 : Own Hc (fun id => k1 ≤ id ∧ id < k2) x2 (.view (unRows T)) := o2.mv fun id b hid hb => ⟨hid, keep id b hid.2 hb⟩
  have oa : Own Hc (fun id => k1 ≤ id ∧ id < k2) au (.view (byteRows U.d)) := oa.mv fun id b hid hb => ⟨hid, keep id b hid.2 hb⟩
  have e1 : Hc k2 = some (.cells [.int .u8 U.k, .int .i64 U.p, .int .i64 U.f, au] 58) := by rw [hHc, upd_ne _ _ (by omega), upd_same]
  have e2 : Hc (k2 + 1) = some (.cells U.cells 58) := by rw [hHc, upd_same]
  have w1 : AC Try.prog 40 [x1, .view (unRows P)] Hc (k2 + 2) (fun r h' n' => r = .ret (.bool true) ∧ h' = Hc ∧ n' = k2 + 2) := look40 hP o1
  have w2 : AC Try.prog 40 [x2, .view (unRows T)] Hc (k2 + 2) (fun r h' n' => r = .ret (.bool true) ∧ h' = Hc ∧ n' = k2 + 2) := look40 hT o2
  have w3 : AC Try.prog 35 [.agg [.int .u8 U.k, .int .i64 U.p, .int .i64 U.f, au], .agg U.cells] Hc (k2 + 2) (fun r h' n' => r = .ret (.bool true) ∧ h' = Hc ∧ n' = k2 + 2) :=
    PF.look h35 (.bool _) _ _ (.cons (FzL.agg (.cons (.pur (.int _ _)) (.cons (.pur (.int _ _)) (.cons (.pur (.int _ _)) (.cons oa.fz .nil))))) (.cons (.pur (.agg (un_pur U))) .nil))
  clear keep
  have tE := And.intro (@upd_upd AV) <| And.intro (@upd_upd (Option Blk)) <| And.intro Cf.cells.eq_1 <| And.intro Un.cells.eq_1 <| And.intro z1 <| And.intro hHc' <| And.intro e1 <| And.intro e2 <| And.intro ty3 <| And.intro ty4 <| And.intro ty5 <| And.intro ty23 <| And.intro ty56 <| And.intro ty58 <| Try.results10; repeat' first | ((with_reducible first | apply w_seq | apply w_region | apply wl_nil | apply wr_nil | apply wr_nilA | apply wr_nilE | apply go_normal | apply go_ret | apply go_exit | apply blk_normal | apply blk_ret | apply blk_here | apply w_block | apply w_skip | apply w_exit | apply w_label)) | ((with_reducible apply w_live (lvAt [[0, 1, 2, 3], [1, 2, 3, 4], [], [1, 2, 3, 4], [1, 2, 3, 4, 9, 10], [1, 2, 3, 4, 9, 10, 11, 12], [1, 2, 3, 4, 9, 10, 11, 12, 13, 14], [1, 2, 3, 4, 9, 10, 11, 12, 13, 14, 15, 16, 17], [1, 2, 3, 4, 9, 10, 11, 12, 13, 14, 15, 16, 17, 18, 19, 20], [1, 2, 3, 4, 9, 10, 11, 12, 13, 14, 15, 16, 17, 18, 19, 20, 21, 22], [1, 2, 4, 9, 10, 11, 12, 13, 14, 15, 16, 17, 18, 19, 20, 21, 22, 23, 24], [1, 2, 4, 9, 10, 11, 15, 25], [1, 2, 9, 10, 11, 15, 25, 26], [1, 2, 9, 10, 11, 15, 25, 26, 27], [], [1, 2, 9, 10, 11, 15, 25, 26, 27], [1, 2, 9, 10, 11, 15, 25, 26], [1, 2, 9, 10, 15, 25, 26], [1, 2, 9, 10, 25, 26]])); (focus (simp only [lvAt_zero, lvAt_succ]; rfl)); exact zLv) | ((with_reducible first | apply wz (tok Try.prog) | apply wr_z (tok Try.prog)); exact zZ; decide) | ((with_reducible first | apply wzg (tok Try.prog) | apply wr_zg (tok Try.prog)); exact zU; exact zL; exact zU; exact zZ; decide) | ((with_reducible first | apply w_alloc (tok Try.prog)); exact zT; decide) | ((with_reducible first | apply w_store (tok Try.prog)); exact zV; exact zV; exact zS) | ((with_reducible first | apply wcall' | apply wr_call); exact zV; exact zVs; exact zAs; (focus (with_unfolding_all first | exact h38 | exact h30 | exact h39 | exact h33 | exact h41 | exact h42m | exact h40m | exact h42)); decide) | ((with_reducible first | apply wcallg' | apply wr_callg); exact zU; exact zL; exact zU; exact zV; exact zVs; exact zAs; (focus (with_unfolding_all first | exact h38 | exact h30 | exact h39 | exact h33 | exact h41 | exact h42m | exact h40m | exact h42)); decide) | ((with_reducible first | apply wacall'); exact zV; exact zVs; exact zAs; (focus (first | exact ⟨_, Try.func35, rfl, rfl⟩ | exact ⟨_, Try.func40, rfl, rfl⟩)); (focus (with_unfolding_all first | exact w1 | exact w2 | exact w3)); decide) | ((with_reducible first | apply wacallg'); exact zU; exact zL; exact zU; exact zV; exact zVs; exact zAs; (focus (first | exact ⟨_, Try.func35, rfl, rfl⟩ | exact ⟨_, Try.func40, rfl, rfl⟩)); (focus (with_unfolding_all first | exact w1 | exact w2 | exact w3)); decide) | ((with_reducible first | apply w_draw0 mixed); (focus (decide +kernel))) | fail
  all_goals try clear tE
  (have tE := And.intro (@upd_upd AV) <| And.intro (@upd_upd (Option Blk)) <| Cf.cells.eq_1; (with_reducible apply wacall); exact zV; exact zVs; exact zAs; exact h43.cal; (focus (with_unfolding_all exact h43.ac _ _)); decide; clear tE)
  rintro r H3 k3 ⟨hn3, hold3, htop3, x3, y, rfl, o3, rfl⟩
  have hn3 : k2 + 2 ≤ k3 := hn3
  have o3 : Own H3 (fun id => k2 + 2 ≤ id ∧ id < k3) x3 (.view (unRows q)) := o3.mv fun id b hid hb => ⟨⟨hid, lt_top htop3 hb⟩, hb⟩
  have o1 : Own H3 (fun id => id < k1) x1 (.view (unRows P)) := o1.mv fun id b hid hb => ⟨hid, hold3 id b hb⟩
  have o2 : Own H3 (fun id => k1 ≤ id ∧ id < k2) x2 (.view (unRows T)) := o2.mv fun id b hid hb => ⟨hid, hold3 id b hb⟩
  have w4 : AC Try.prog 40 [x3, .view (unRows q)] H3 k3 (fun r h' n' => r = .ret (.bool true) ∧ h' = H3 ∧ n' = k3) := look40 hq o3
  clear hold3
  have tE := And.intro (@upd_upd AV) <| And.intro (@upd_upd (Option Blk)) <| And.intro Cf.cells.eq_1 <| And.intro ty3 <| And.intro ty4 <| And.intro ty5 <| And.intro ty23 <| And.intro ty56 <| And.intro ty58 <| Try.results10; repeat' first | ((with_reducible first | apply w_seq | apply w_region | apply wl_nil | apply wr_nil | apply wr_nilA | apply wr_nilE | apply go_normal | apply go_ret | apply go_exit | apply blk_normal | apply blk_ret | apply blk_here | apply w_block | apply w_skip | apply w_exit | apply w_label)) | ((with_reducible first | apply wz (tok Try.prog) | apply wr_z (tok Try.prog)); exact zZ; decide) | ((with_reducible first | apply wacall'); exact zV; exact zVs; exact zAs; (focus (first | exact ⟨_, Try.func40, rfl, rfl⟩)); (focus (with_unfolding_all first | exact w4)); decide) | ((with_reducible first | apply w_iff'); exact zV; exact zU) | fail
  all_goals try clear tE
  have s3 := ac44 q x3 (fun id => k2 + 2 ≤ id ∧ id < k3) H3 k3 o3 hq.1 hq.2
  (have tE := And.intro (@upd_upd AV) <| And.intro (@upd_upd (Option Blk)) <| Cf.cells.eq_1; (with_reducible apply wacall); exact zV; exact zVs; exact zAs; exact cal44; (focus (with_unfolding_all exact s3)); decide; clear tE)
  rintro r G1 g1 ⟨rfl, sp3, hg1⟩
  rw [hg1]
  have o1 : Own G1 (fun id => id < k1) x1 (.view (unRows P)) := o1.mv fun id b hid hb => ⟨hid, by rw [sp3.out id (by omega)]; exact hb⟩
  have o2 : Own G1 (fun id => k1 ≤ id ∧ id < k2) x2 (.view (unRows T)) := o2.mv fun id b hid hb => ⟨hid, by rw [sp3.out id (by omega)]; exact hb⟩
  have tE := And.intro (@upd_upd AV) <| And.intro (@upd_upd (Option Blk)) <| And.intro Cf.cells.eq_1 <| And.intro ty3 <| And.intro ty4 <| And.intro ty5 <| And.intro ty23 <| And.intro ty56 <| And.intro ty58 <| Try.results10; repeat' first | ((with_reducible first | apply w_seq | apply w_region | apply wl_nil | apply wr_nil | apply wr_nilA | apply wr_nilE | apply go_normal | apply go_ret | apply go_exit | apply blk_normal | apply blk_ret | apply blk_here | apply w_block | apply w_skip | apply w_exit | apply w_label)) | ((with_reducible first | apply wz (tok Try.prog) | apply wr_z (tok Try.prog)); exact zZ; decide) | fail
  all_goals try clear tE
  have s1 := ac44 P x1 (fun id => id < k1) G1 k3 o1 hP.1 hP.2
  (have tE := And.intro (@upd_upd AV) <| And.intro (@upd_upd (Option Blk)) <| Cf.cells.eq_1; (with_reducible apply wacall); exact zV; exact zVs; exact zAs; exact cal44; (focus (with_unfolding_all exact s1)); decide; clear tE)
  rintro r G2 g2 ⟨rfl, sp1, hg2⟩
  rw [hg2]
  have o2 : Own G2 (fun id => k1 ≤ id ∧ id < k2) x2 (.view (unRows T)) := o2.mv fun id b hid hb => ⟨hid, by rw [sp1.out id (by omega)]; exact hb⟩
  have tE := And.intro (@upd_upd AV) <| And.intro (@upd_upd (Option Blk)) <| And.intro Cf.cells.eq_1 <| And.intro ty3 <| And.intro ty4 <| And.intro ty5 <| And.intro ty23 <| And.intro ty56 <| And.intro ty58 <| Try.results10; repeat' first | ((with_reducible first | apply w_seq | apply w_region | apply wl_nil | apply wr_nil | apply wr_nilA | apply wr_nilE | apply go_normal | apply go_ret | apply go_exit | apply blk_normal | apply blk_ret | apply blk_here | apply w_block | apply w_skip | apply w_exit | apply w_label)) | ((with_reducible first | apply wz (tok Try.prog) | apply wr_z (tok Try.prog)); exact zZ; decide) | fail
  all_goals try clear tE
  have s2 := ac44 T x2 (fun id => k1 ≤ id ∧ id < k2) G2 k3 o2 hT.1 hT.2
  (have tE := And.intro (@upd_upd AV) <| And.intro (@upd_upd (Option Blk)) <| Cf.cells.eq_1; (with_reducible apply wacall); exact zV; exact zVs; exact zAs; exact cal44; (focus (with_unfolding_all exact s2)); decide; clear tE)
  rintro r G3 g3 ⟨rfl, sp2, hg3⟩
  rw [hg3]
  have tE := And.intro (@upd_upd AV) <| And.intro (@upd_upd (Option Blk)) <| And.intro Cf.cells.eq_1 <| And.intro ty3 <| And.intro ty4 <| And.intro ty5 <| And.intro ty23 <| And.intro ty56 <| And.intro ty58 <| Try.results10; repeat' first | ((with_reducible first | apply w_seq | apply w_region | apply wl_nil | apply wr_nil | apply wr_nilA | apply wr_nilE | apply go_normal | apply go_ret | apply go_exit | apply blk_normal | apply blk_ret | apply blk_here | apply w_block | apply w_skip | apply w_exit | apply w_label)) | ((with_reducible first | apply wz (tok Try.prog) | apply wr_z (tok Try.prog)); exact zZ; decide) | ((with_reducible first | apply wzg (tok Try.prog) | apply wr_zg (tok Try.prog)); exact zU; exact zL; exact zU; exact zZ; decide) | ((with_reducible first | apply wcallg' | apply wr_callg); exact zU; exact zL; exact zU; exact zV; exact zVs; exact zAs; (focus (with_unfolding_all first | exact h40 | exact h40mm)); decide) | ((with_reducible apply w_ret); (repeat (with_reducible first | apply go_ret | apply blk_ret)); (with_reducible apply done_ret (tok Try.prog)); exact zT; exact zD; exact zX) | fail
  all_goals try clear tE
  rfl
theorem pf10 (c : Cf) (q m : List Un) (p : Int) : PF Try.prog 10 [.agg c.cells, .view (unRows q), .view (unRows m), .int .i64 p] (fun r => r = .bool true) := by
  cases hq : great q with
  | true => exact pf10_great c q m p (.inl hq)
  | false =>
    cases hm : great m with
    | true => exact pf10_great c q m p (.inr hm)
    | false => exact pf10_main c q m p hq hm
end Go.Proofs.Ytclldbeefbbdlaa
