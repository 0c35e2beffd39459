/- queue.Take: an answer in new memory. -/
import Derived.Test.YtclldbeefbbdlaaF3
open Go Go.Lg
set_option linter.unusedSimpArgs false
set_option linter.unusedVariables false
set_option maxHeartbeats 4000000
set_option maxRecDepth 20000
namespace Go.Proofs.Ytclldbeefbbdlaa
theorem uz_own (H : Heap) (S : Nat → Prop) (e : Int) : Own H S (.tuple [.empty, .agg [.int .u8 0, .int .i64 0, .int .i64 0, .empty], .int .i64 e]) (.tuple [.view (unRows []), .agg uz.cells, .int .i64 e]) :=
  OwnL.tuple (.cons .nothing (.cons (OwnL.agg (.cons (.int _ _) (.cons (.int _ _) (.cons (.int _ _) (.cons .nothing .nil))))) (.cons (.int _ _) .nil)))
theorem OwnUs.tail {H : Heap} {S : Nat → Prop} {u : Un} {a0 : AV} {q : List Un} {ar : List AV} {id len : Nat} {cap : Option Nat} (h : OwnUs H S (u :: q) (a0 :: ar)) (hS : S id) (hH : H id = some (.cells (oUs (u :: q) (a0 :: ar)).flatten 58)) (hl : q.length = len) : Own H S (.slice id 4 len cap 4) (.view (unRows q)) := by
  subst hl
  have h2 : OwnUs H S q ar := ⟨by have := h.1; simpa using this, fun j v w hv hw => h.2 (j + 1) v w (by simpa using hv) (by simpa using hw)⟩
  have hf := h2.flat
  have hfl : (unRows q).flatten.length = q.length * 4 := unFlat_len q
  have hcs : (oUs (u :: q) (a0 :: ar)).flatten = oU u a0 ++ (oUs q ar).flatten := rfl
  have ho4 : (oU u a0).length = 4 := rfl
  have := Own.slice (off := 4) (len := q.length) (cap := cap) (sz := 4) (ys := (unRows q).flatten) hS hH (by rw [oUFlat_len h.1, List.length_cons]; omega) hfl (fun i x y hx hy => hf.2 i x y (by rw [hcs, List.getElem?_append_right (by omega), ho4, Nat.add_sub_cancel_left] at hx; exact hx) hy)
  rw [← unRows_len q, chunk_flatten (unRows_row q), unRows_len] at this
  exact this
theorem nf27_bad (c : Cf) (q : List Un) (hq : q.length ≤ 1000000) (h : qok c q = false) : NF Try.prog 27 [.agg c.cells, .view (unRows q)] (fun r => r = .tuple [.view (unRows []), .agg uz.cells, .int .i64 8]) := by
  have e1 : (if qok c q = true then (0 : Int) else 8) = 8 := if_neg (by rw [h]; simp)
  refine nf_of_w0 Try.func27 (c := _) rfl rfl (Nat.le_of_ble_eq_true rfl) (args_cl c q) ?_
  rw [show Try.f27.ntmps = 34 from rfl]
  have tE := And.intro (@upd_upd AV) <| And.intro (@upd_upd (Option Blk)) <| And.intro Cf.cells.eq_1 <| And.intro e1 <| And.intro ty3 <| And.intro ty4 <| And.intro ty5 <| And.intro ty23 <| And.intro ty25 <| And.intro ty55 <| And.intro ty56 <| And.intro ty58 <| And.intro ty106 <| Try.results27; repeat' first | ((with_reducible first | apply w_seq | apply w_region | apply wl_nil | apply wr_nil | apply wr_nilA | apply wr_nilE | apply go_normal | apply go_ret | apply go_exit | apply blk_normal | apply blk_ret | apply blk_here | apply w_block | apply w_skip | apply w_exit | apply w_label)) | ((with_reducible apply w_live (lvAt [[0, 1], [1, 2, 5], [1, 5, 7], [5, 7], [1, 5], [5, 8], [5, 8, 9], [5], [5, 8]])); (focus (simp only [lvAt_zero, lvAt_succ]; rfl)); exact zLv) | ((with_reducible first | apply wz (tok Try.prog) | apply wr_z (tok Try.prog)); exact zZ; decide) | ((with_reducible first | apply w_alloc (tok Try.prog)); exact zT; decide) | ((with_reducible first | apply wcall' | apply wr_call); exact zV; exact zVs; exact zAs; (focus (with_unfolding_all first | exact pf33 c q (by omega))); decide) | ((with_reducible first | apply w_ift'); exact zV; exact zU) | ((with_reducible first | apply fm_nil | apply fm_cons)) | ((with_reducible apply m_next); exact zU) | ((with_reducible apply m_nil0); exact zU) | ((with_reducible first | apply m_v (tok Try.prog)); exact zU; exact zZ; decide) | ((with_reducible first | apply m_x (tok Try.prog)); exact zU; (focus (decide +kernel)); exact zZ; decide) | ((with_reducible first | apply m_chg0); exact zU; (focus ((with_reducible apply c_store (tok Try.prog)); exact zV; exact zV; exact zS))) | ((with_reducible apply w_drawN (id := 3) [3] [([3], [0, 2, 3, 1, 4])] mixed); (focus (decide +kernel))) | ((with_reducible apply w_ret); (repeat (with_reducible first | apply go_ret | apply blk_ret)); (with_reducible first | apply donef_ret (tok Try.prog) | apply doneA_ret (tok Try.prog)); exact zT; exact zD) | fail
  all_goals try clear tE
  exact ⟨_, _, rfl, uz_own _ _ 8, rfl⟩
theorem nf27_nil (c : Cf) (h : qok c [] = true) : NF Try.prog 27 [.agg c.cells, .view (unRows [])] (fun r => r = .tuple [.view (unRows []), .agg uz.cells, .int .i64 6]) := by
  have e1 : (if qok c [] = true then (0 : Int) else 8) = 0 := if_pos h
  refine nf_of_w0 Try.func27 (c := _) rfl rfl (Nat.le_of_ble_eq_true rfl) (args_cl c []) ?_
  rw [show Try.f27.ntmps = 34 from rfl]
  have tE := And.intro (@upd_upd AV) <| And.intro (@upd_upd (Option Blk)) <| And.intro Cf.cells.eq_1 <| And.intro e1 <| And.intro ty3 <| And.intro ty4 <| And.intro ty5 <| And.intro ty23 <| And.intro ty25 <| And.intro ty55 <| And.intro ty56 <| And.intro ty58 <| And.intro ty106 <| And.intro Try.results27 <| Try.results61; repeat' first | ((with_reducible first | apply w_seq | apply w_region | apply wl_nil | apply wr_nil | apply wr_nilA | apply wr_nilE | apply go_normal | apply go_ret | apply go_exit | apply blk_normal | apply blk_ret | apply blk_here | apply w_block | apply w_skip | apply w_exit | apply w_label)) | ((with_reducible apply l_box (d := 20)); exact zV; exact zU; decide) | ((with_reducible first | apply wz (tok Try.prog) | apply wr_z (tok Try.prog)); exact zZ; decide) | ((with_reducible first | apply w_alloc (tok Try.prog)); exact zT; decide) | ((with_reducible first | apply w_store (tok Try.prog)); exact zV; exact zV; exact zS) | ((with_reducible first | apply wcall' | apply wr_call); exact zV; exact zVs; exact zAs; (focus (with_unfolding_all first | exact pf33 c [] (by simp) | exact pf43_nilE)); decide) | ((with_reducible first | apply wl_inl); exact zV; exact zVs; exact zAs; (focus (first | exact Try.func61)); (focus (rfl)); (focus (rfl)); (focus (rfl)); (focus (exact Nat.le_of_ble_eq_true rfl)); decide) | ((with_reducible apply w_ret); (repeat (with_reducible first | apply go_ret | apply blk_ret)); (with_reducible apply inl_ret (tok Try.prog)); exact zT; exact zD) | ((with_reducible first | apply w_ift'); exact zV; exact zU) | ((with_reducible first | apply w_iff'); exact zV; exact zU) | ((with_reducible first | apply fm_nil | apply fm_cons)) | ((with_reducible apply m_next); exact zU) | ((with_reducible apply m_nil0); exact zU) | ((with_reducible first | apply m_v (tok Try.prog)); exact zU; exact zZ; decide) | ((with_reducible first | apply m_x (tok Try.prog)); exact zU; (focus (decide +kernel)); exact zZ; decide) | ((with_reducible first | apply m_chg0); exact zU; (focus ((with_reducible apply c_store (tok Try.prog)); exact zV; exact zV; exact zS))) | ((with_reducible apply w_drawN (id := 7) [2] [([2], [0, 1, 2, 3])] mixed); (focus (decide +kernel))) | ((with_reducible apply w_ret); (repeat (with_reducible first | apply go_ret | apply blk_ret)); (with_reducible first | apply donef_ret (tok Try.prog) | apply doneA_ret (tok Try.prog)); exact zT; exact zD) | fail
  all_goals try clear tE
  exact ⟨_, _, rfl, uz_own _ _ 6, rfl⟩
theorem nf27_ok (c : Cf) (u : Un) (q : List Un) (hq : (u :: q).length ≤ 1000000) (hd : ∀ x, x ∈ u :: q → x.d.length ≤ 1000000) (h : qok c (u :: q) = true) : NF Try.prog 27 [.agg c.cells, .view (unRows (u :: q))] (fun r => r = .tuple [.view (unRows q), .agg u.cells, .int .i64 0]) := by
  have e1 : (if qok c (u :: q) = true then (0 : Int) else 8) = 0 := if_pos h
  have t33 := pf33 c (u :: q) hq
  obtain ⟨T, mq, n0, hn0, hT0, hTo, hTt, t43⟩ := ac43x (u :: q) (by simp) hq hd
  rw [List.length_cons] at t43 hq
  have hpos : ((0 : Int) < ((q.length + 1 : Nat) : Int)) = True := by simp; try omega
  have hgt : (((q.length + 1 : Nat) : Int) > 0) = True := by simp; try omega
  have hn : 1 ≤ q.length + 1 := by omega
  refine nf_of_w0 Try.func27 (c := _) rfl rfl (Nat.le_of_ble_eq_true rfl) (args_cl c (u :: q)) ?_
  rw [show Try.f27.ntmps = 34 from rfl]
  have tE := And.intro (@upd_upd AV) <| And.intro (@upd_upd (Option Blk)) <| And.intro Cf.cells.eq_1 <| And.intro e1 <| And.intro ty3 <| And.intro ty4 <| And.intro ty5 <| And.intro ty23 <| And.intro ty25 <| And.intro ty55 <| And.intro ty56 <| And.intro ty58 <| And.intro ty106 <| And.intro Try.results27 <| Try.results61; repeat' first | ((with_reducible first | apply w_seq | apply w_region | apply wl_nil | apply wr_nil | apply wr_nilA | apply wr_nilE | apply go_normal | apply go_ret | apply go_exit | apply blk_normal | apply blk_ret | apply blk_here | apply w_block | apply w_skip | apply w_exit | apply w_label)) | ((with_reducible first | apply wz (tok Try.prog) | apply wr_z (tok Try.prog)); exact zZ; decide) | ((with_reducible first | apply w_alloc (tok Try.prog)); exact zT; decide) | ((with_reducible first | apply wcall' | apply wr_call); exact zV; exact zVs; exact zAs; (focus (with_unfolding_all first | exact t33)); decide) | ((with_reducible first | apply w_iff'); exact zV; exact zU) | fail
  all_goals try clear tE
  (have tE := And.intro (@upd_upd AV) <| And.intro (@upd_upd (Option Blk)) <| Cf.cells.eq_1; (with_reducible apply wacall); exact zV; exact zVs; exact zAs; exact cal43; (focus (with_unfolding_all exact t43 _ _)); decide; clear tE)
  rintro r H1 k1 ⟨rfl, hH1, hk1⟩
  have hk1 : k1 = 1 + n0 := by simpa using hk1
  have b0 : H1 0 = some (.cells [.int .u8 (Int.ofNat 0), .int .i64 (Int.ofNat 0), .int .i64 (Int.ofNat 0), .empty] 58) := by rw [hH1, or_old (by omega)]; rfl
  have b1 : H1 1 = some (.cells (oUs (u :: q) (mq.map (sh 1))).flatten 58) := by rw [hH1]; simp only [Heap.or]; have := hT0 1; rw [show (0 + 1 : Nat) = 1 from rfl, this]
  have hO1 : OwnUs H1 (fun id => 2 ≤ id) (u :: q) (mq.map (sh 1)) := (hTo 1).mv fun id b hid hb => ⟨by have hid : 1 + 1 ≤ id := hid; omega, by rw [hH1]; simp only [Heap.or]; rw [show (0 + 1 : Nat) = 1 from rfl, hb]⟩
  have htop1 : ∀ id, k1 ≤ id → H1 id = none := fun id hid => by
    rw [hH1]
    simp only [Heap.or]
    rw [show (0 + 1 : Nat) = 1 from rfl, hTt 1 id (by omega)]
    exact upd_ne _ _ (by omega)
  clear hH1
  generalize mq.map (sh 1) = aq at b1 hO1
  obtain ⟨a0, ar, rfl⟩ : ∃ a0 ar, aq = a0 :: ar := by
    cases aq with
    | nil => have := hO1.1; simp at this
    | cons a0 ar => exact ⟨a0, ar, rfl⟩
  have ho := hO1.2 0 u a0 rfl rfl
  have z1 := (own_scal ho).1
  simp only [scalA] at z1
  have hfl := oUFlat_len hO1.1
  rw [List.length_cons] at hfl
  have ht4 : (oUs (u :: q) (a0 :: ar)).flatten.take 4 = [.int .u8 u.k, .int .i64 u.p, .int .i64 u.f, a0] := rfl
  have hl4 : (4 ≤ (oUs (u :: q) (a0 :: ar)).flatten.length) = True := by rw [hfl]; simp; omega
  have p0 : ((0 : Nat) == k1) = false := by rw [beq_eq_false_iff_ne]; omega
  have p1 : ((1 : Nat) == k1) = false := by rw [beq_eq_false_iff_ne]; omega
  have p2 : ((0 : Nat) == k1 + 1) = false := by rw [beq_eq_false_iff_ne]; omega
  have p3 : ((1 : Nat) == k1 + 1) = false := by rw [beq_eq_false_iff_ne]; omega
  have p4 : (k1 == k1 + 1) = false := by rw [beq_eq_false_iff_ne]; omega
  have p5 : (k1 + 1 == k1) = false := by rw [beq_eq_false_iff_ne]; omega
  have p6 : (k1 == 0) = false := by rw [beq_eq_false_iff_ne]; omega
  have p7 : (k1 + 1 == 0) = false := by rw [beq_eq_false_iff_ne]; omega
  have tE := And.intro (@upd_upd AV) <| And.intro (@upd_upd (Option Blk)) <| And.intro Cf.cells.eq_1 <| And.intro hpos <| And.intro hgt <| And.intro ht4 <| And.intro hl4 <| And.intro b0 <| And.intro b1 <| And.intro z1 <| And.intro p0 <| And.intro p1 <| And.intro p2 <| And.intro p3 <| And.intro p4 <| And.intro p5 <| And.intro p6 <| And.intro p7 <| And.intro ty3 <| And.intro ty4 <| And.intro ty5 <| And.intro ty23 <| And.intro ty25 <| And.intro ty55 <| And.intro ty56 <| And.intro ty58 <| And.intro ty106 <| And.intro Try.results27 <| Try.results61; repeat' first | ((with_reducible first | apply w_seq | apply w_region | apply wl_nil | apply wr_nil | apply wr_nilA | apply wr_nilE | apply go_normal | apply go_ret | apply go_exit | apply blk_normal | apply blk_ret | apply blk_here | apply w_block | apply w_skip | apply w_exit | apply w_label)) | ((with_reducible apply l_box (d := 20)); exact zV; exact zU; decide) | ((with_reducible first | apply wz (tok Try.prog) | apply wr_z (tok Try.prog)); exact zZ; decide) | ((with_reducible first | apply w_alloc (tok Try.prog)); exact zT; decide) | ((with_reducible first | apply w_store (tok Try.prog)); exact zV; exact zV; exact zS) | ((with_reducible first | apply m_p); exact zU; (focus (first | ((with_reducible first | apply p_slv (tok Try.prog)); exact zT; exact zU; exact zT; exact zV; exact zN; exact zN; (focus (first | exact zU | exact zB)); (focus (first | exact zU | exact zB)); (focus (first | exact zU | assumption))) | ((with_reducible first | apply p_slo (tok Try.prog)); exact zT; exact zU; exact zT; exact zV; exact zN; exact zN; (focus (first | exact zU | exact zB)); (focus (first | exact zU | exact zB)); (focus (first | exact zU | assumption))) | ((with_reducible first | apply p_nil (tok Try.prog) | apply p_nnil (tok Try.prog)); exact zT; exact zV; exact zU) | ((with_reducible first | apply p_bs0 (tok Try.prog)); exact zT; exact zU; exact zT) | ((with_reducible first | apply p_ap0 (tok Try.prog)); exact zT; exact zU; exact zT; exact zT; exact zU; exact zA; exact zV; (focus (first | exact Or.inl rfl | exact Or.inr rfl))) | ((with_reducible first | apply p_bytes (tok Try.prog)); exact zT; exact zU; exact zT; exact zU; exact zT; exact zU; exact zV))); decide) | ((with_reducible first | apply wl_inl); exact zV; exact zVs; exact zAs; (focus (first | exact Try.func61)); (focus (rfl)); (focus (rfl)); (focus (rfl)); (focus (exact Nat.le_of_ble_eq_true rfl)); decide) | ((with_reducible apply w_ret); (repeat (with_reducible first | apply go_ret | apply blk_ret)); (with_reducible apply inl_ret (tok Try.prog)); exact zT; exact zD) | ((with_reducible first | apply w_ift'); exact zV; exact zU) | ((with_reducible first | apply w_iff'); exact zV; exact zU) | ((with_reducible first | apply fm_nil | apply fm_cons)) | ((with_reducible apply m_next); exact zU) | ((with_reducible apply m_nil0); exact zU) | ((with_reducible first | apply m_v (tok Try.prog)); exact zU; exact zZ; decide) | ((with_reducible first | apply m_xA (tok Try.prog)); exact zU; exact zI; decide) | ((with_reducible first | apply m_x (tok Try.prog)); exact zU; (focus (decide +kernel)); exact zZ; decide) | ((with_reducible first | apply m_xo (tok Try.prog)); exact zU; exact zZ; decide) | ((with_reducible apply m_nilO); exact zU; (focus (simp only [List.reverse_cons, List.reverse_nil, List.nil_append, List.cons_append]; rfl)); (focus (simp only [OwedAll, Owed, Nat.reduceAdd]; (repeat' apply And.intro); all_goals first | exact trivial | (intro h; exact absurd h (by decide +kernel)) | (intro _; exact zW)))) | ((with_reducible first | apply m_chg0); exact zU; (focus ((with_reducible apply c_store (tok Try.prog)); exact zV; exact zV; exact zS))) | ((with_reducible apply w_drawN (id := 8) [6] [([6], [4, 0, 1, 2, 3, 5, 6, 7])] mixed); (focus (decide +kernel))) | ((with_reducible apply w_drawN (id := 2) [12, 15] [([12, 15], [1, 2, 3, 4, 5, 6, 12, 0, 7, 8, 9, 10, 11, 13, 14, 15, 16])] mixed); (focus (decide +kernel))) | ((with_reducible apply w_ret); (repeat (with_reducible first | apply go_ret | apply blk_ret)); (with_reducible first | apply donef_ret (tok Try.prog) | apply doneA_ret (tok Try.prog)); exact zT; exact zD) | fail
  all_goals try clear tE
  refine ⟨_, _, rfl, OwnL.tuple (.cons (OwnUs.tail (u := u) (a0 := a0) (q := q) (ar := ar) (len := q.length) (id := 1) (hO1.mv fun id b hid hb => ⟨trivial, ?_⟩) trivial ?_ rfl) (.cons (OwnL.agg (.cons (.int _ _) (.cons (.int _ _) (.cons (.int _ _) (.cons (ho.mv fun id b hid hb => ⟨trivial, ?_⟩) .nil))))) (.cons (.int _ _) .nil))), rfl⟩
  · have hid : 2 ≤ id := hid
    have hlt : id < k1 := lt_top htop1 hb
    rw [upd_ne _ _ (by omega), upd_ne _ _ (by omega), upd_ne _ _ (by omega), upd_ne _ _ (by omega), upd_ne _ _ (by omega)]; exact hb
  · rw [upd_ne _ _ (by omega), upd_ne _ _ (by omega), upd_ne _ _ (by omega), upd_ne _ _ (by omega), upd_ne _ _ (by omega)]; exact b1
  · have hid : 2 ≤ id := hid
    have hlt : id < k1 := lt_top htop1 hb
    rw [upd_ne _ _ (by omega), upd_ne _ _ (by omega), upd_ne _ _ (by omega), upd_ne _ _ (by omega), upd_ne _ _ (by omega)]; exact hb
theorem nf27 (c : Cf) (q : List Un) (hq : q.length ≤ 1000000) (hd : ∀ x, x ∈ q → x.d.length ≤ 1000000) : NF Try.prog 27 [.agg c.cells, .view (unRows q)] (fun r => r = .tuple [.view (unRows (takU c q)), .agg (tak1 c q).cells, .int .i64 (takE c q)]) := by
  cases h : qok c q with
  | false => exact (nf27_bad c q hq h).mono (fun x hx => by simp [hx, takU, tak1, takE, h])
  | true =>
    cases q with
    | nil => exact (nf27_nil c h).mono (fun x hx => by simp [hx, takU, tak1, takE, h])
    | cons u q => exact (nf27_ok c u q hq hd h).mono (fun x hx => by simp [hx, takU, tak1, takE, h])
end Go.Proofs.Ytclldbeefbbdlaa
